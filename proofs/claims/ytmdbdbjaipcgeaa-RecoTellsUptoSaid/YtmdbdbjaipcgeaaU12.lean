/- Locks: made and opened. Locks opened by the document; names; doings as bytes. Doings as bytes: made and opened. Doings opened, and compared. Doings one behind the other. Traces, by the program and by the document; compared; what the document fixes of layer 12. What is made is opened; what the document fixes of layer 12. What the document fixes of layer 12. Layer 12: a lock at one place of which a bit is turned, or that is cut, longer or doubled, is not opened; for inputs of bulk at most 1048576. -/
import Derived.Test.YtmdbdbjaipcgeaaGC
import Derived.Test.YtmdbdbjaipcgeaaU11
import Derived.Test.YtmdbdbjaipcgeaaU3
namespace Go.G
open Go.Ab Go.Proofs Go.RowKit
set_option linter.unusedVariables false
set_option linter.unusedSimpArgs false
set_option maxRecDepth 100000

def lkv (a b c d : Int) : Value := .agg #[.int .i64 a, .int .i64 b, .int .i64 c, .int .i64 d]
theorem bx_lk (a b c d : Int) : boxv (lkv a b c d) = some [.int .i64 a, .int .i64 b, .int .i64 c, .int .i64 d] := by kernel_rfl
theorem bl_lk4 (a b c d : Int) : bldS #[.int .i64 0, .int .i64 0, .int .i64 0, .int .i64 0] [(0, 1), (1, 1), (2, 1), (3, 1)] [(0, .int .i64 a), (1, .int .i64 b), (2, .int .i64 c), (3, .int .i64 d)] = some (lkv a b c d) := by kernel_rfl
theorem bl_lk2 (a b : Int) : bldS #[.int .i64 0, .int .i64 0, .int .i64 0, .int .i64 0] [(0, 1), (1, 1), (2, 1), (3, 1)] [(0, .int .i64 a), (1, .int .i64 b)] = some (lkv a b 0 0) := by kernel_rfl
theorem bl_lk0 : bldS #[.int .i64 0, .int .i64 0, .int .i64 0, .int .i64 0] [(0, 1), (1, 1), (2, 1), (3, 1)] [] = some (lkv 0 0 0 0) := by kernel_rfl

theorem st4_ok {M b cells T} (h : Ob M b cells T) (hl : cells.length = 4) {v c0 c1 c2 c3 : Value} (hc : v.cells = #[c0, c1, c2, c3]) (h2 : v.cells.all (·.oneCell') = true) :
    st 4 (.pointer (some ⟨b, 0, none⟩)) v M = some (M.set b (some (.inl ([c0, c1, c2, c3], T, true)))) := by
  simp only [Go.Ab.st]
  rw [show M.get b = some (.inl (cells, T, true)) from h]
  rw [hc] at h2
  simp only [hc]
  rw [if_pos ⟨rfl, by simp [hl], h2⟩]
  have hd : cells.drop 4 = [] := List.drop_eq_nil_of_le (by omega)
  simp [splice, hd]
theorem lk_cells (a b c d : Int) : (lkv a b c d).cells = #[.int .i64 a, .int .i64 b, .int .i64 c, .int .i64 d] := by kernel_rfl
theorem lk_one (a b c d : Int) : (lkv a b c d).cells.all (·.oneCell') = true := by kernel_rfl
/-- A box that is begun and filled. -/
theorem mk4 {M : Store} {T : TypeId} {z0 z1 z2 z3 v c0 c1 c2 c3 : Value} (hc : v.cells = #[c0, c1, c2, c3]) (h2 : v.cells.all (·.oneCell') = true) {K : Store → Prop}
    (hK : ∀ M', Up M M' → Ob M' M.n [c0, c1, c2, c3] T → M'.n = M.n + 1 → K M') : OP (st 4 (.pointer (some ⟨M.n, 0, none⟩)) v (M.push (some (.inl ([z0, z1, z2, z3], T, true))))) K := by
  have o := Ob.new M [z0, z1, z2, z3] T
  rw [st4_ok o rfl hc h2, OP_some]
  exact hK _ ((Up.push M _).ch (Ch.setO o _) fun c hc => by simp at hc; omega) (o.setSt _) (by simp)

theorem e_andM (n : Int) (m : Nat) (hm : m < 2 ^ 62) : ∃ k : Nat, k ≤ m ∧ binI .and (.int .i64 n) (.int .i64 (m : Int)) = some (.int .i64 (k : Int)) := by
  have h : binI .and (.int .i64 n) (.int .i64 (m : Int)) = some (.int .i64 (IntKind.wrap .i64 (BitVec.ofInt 64 n &&& BitVec.ofInt 64 m).toNat)) := rfl
  have hk : (BitVec.ofInt 64 n &&& BitVec.ofInt 64 (m : Int)).toNat ≤ m := by
    rw [BitVec.toNat_and]
    have : (BitVec.ofInt 64 (m : Int)).toNat = m := by rw [BitVec.toNat_ofInt]; omega
    rw [this]
    exact Nat.and_le_right
  refine ⟨_, hk, ?_⟩
  rw [h, w64 (by omega) (by omega)]

/-- What a lock is as bytes. -/
def lockF (a b c d : Int) : List UInt8 := frm (be 6 (held a) ++ be 6 (held b) ++ be 6 (held c) ++ be 6 (held d))
theorem lockF_length (a b c d : Int) : (lockF a b c d).length = 34 := by simp [lockF, frm_length, be_length]

theorem Lock_ok {M : Store} (a b c d : Int) : R F.reco_Lock #[lkv a b c d] M fun v M' => Up M M' ∧ N M M' v (lockF a b c d) := by
  refine R.cps fun Q hQ => ?_
  apply T_reco_Lock
  unfold S_reco_Lock
  rw [bx_lk, OP_some, LT_eq]
  have o1 := Ob.new M [.int .i64 a, .int .i64 b, .int .i64 c, .int .i64 d] Ty.api_Lock
  have u1 := Up.push M (some (.inl ([Value.int .i64 a, .int .i64 b, .int .i64 c, .int .i64 d], Ty.api_Lock, true)))
  generalize M.push (some (.inl ([Value.int .i64 a, .int .i64 b, .int .i64 c, .int .i64 d], Ty.api_Lock, true))) = M1 at *
  simp only [e_fad, Nat.zero_add]
  rw [o1.ld (o := 0) rfl, OP_some]
  refine (Num_ok (l := []) (Sl.nil _ _ _) (by simp) a).mono fun v2 M2 ⟨u2, h2⟩ => ?_
  rw [List.nil_append] at h2
  refine ⟨u2.tdj _ _, ?_⟩
  have o2 := o1.up u2
  rw [o2.ld (o := 1) rfl, OP_some]
  refine (Num_ok h2.by (by simp [be_length]) b).mono fun v3 M3 ⟨u3, h3⟩ => ?_
  refine ⟨u3.tdj _ _, ?_⟩
  have o3 := o2.up u3
  rw [o3.ld (o := 2) rfl, OP_some]
  refine (Num_ok h3.by (by simp [be_length]) c).mono fun v4 M4 ⟨u4, h4⟩ => ?_
  refine ⟨u4.tdj _ _, ?_⟩
  have o4 := o3.up u4
  rw [o4.ld (o := 3) rfl, OP_some]
  refine (Num_ok h4.by (by simp [be_length]) d).mono fun v5 M5 ⟨u5, h5⟩ => ?_
  refine ⟨u5.tdx _ _ _, ?_⟩
  refine (Put_ok (l := []) (Sl.nil _ _ _) h5.by (by simp) (by simp [be_length])).mono fun v6 M6 ⟨u6, h6⟩ => ?_
  rw [List.nil_append] at h6
  have u : Up M M5 := (((u1.trans u2).trans u3).trans u4).trans u5
  exact ⟨u6.tdx _ _ _, nts_of h6.sl, hQ _ _ ⟨u.trans u6, Nw.base h6 u.n⟩⟩
theorem RLock_ok {M : Store} (a b c d : Int) : R F.fettleref10_Lock #[lkv a b c d] M fun v M' => Up M M' ∧ N M M' v (lockF a b c d) := by
  refine R.cps fun Q hQ => ?_
  apply T_fettleref10_Lock
  unfold S_fettleref10_Lock
  rw [bx_lk, OP_some, LT_eq]
  have o1 := Ob.new M [.int .i64 a, .int .i64 b, .int .i64 c, .int .i64 d] Ty.api_Lock
  have u1 := Up.push M (some (.inl ([Value.int .i64 a, .int .i64 b, .int .i64 c, .int .i64 d], Ty.api_Lock, true)))
  generalize M.push (some (.inl ([Value.int .i64 a, .int .i64 b, .int .i64 c, .int .i64 d], Ty.api_Lock, true))) = M1 at *
  simp only [e_fad, Nat.zero_add]
  rw [o1.ld (o := 0) rfl, OP_some]
  refine (RNum_ok (l := []) (Sl.nil _ _ _) (by simp) a).mono fun v2 M2 ⟨u2, h2⟩ => ?_
  rw [List.nil_append] at h2
  refine ⟨u2.tdj _ _, ?_⟩
  have o2 := o1.up u2
  rw [o2.ld (o := 1) rfl, OP_some]
  refine (RNum_ok h2.by (by simp [be_length]) b).mono fun v3 M3 ⟨u3, h3⟩ => ?_
  refine ⟨u3.tdx _ _ _, ?_⟩
  have o3 := o2.up u3
  rw [o3.ld (o := 2) rfl, OP_some]
  refine (RNum_ok h3.by (by simp [be_length]) c).mono fun v4 M4 ⟨u4, h4⟩ => ?_
  refine ⟨u4.tdj _ _, ?_⟩
  have o4 := o3.up u4
  rw [o4.ld (o := 3) rfl, OP_some]
  refine (RNum_ok h4.by (by simp [be_length]) d).mono fun v5 M5 ⟨u5, h5⟩ => ?_
  refine ⟨u5.tdx _ _ _, ?_⟩
  refine (RPut_ok (l := []) (Sl.nil _ _ _) h5.by (by simp) (by simp [be_length])).mono fun v6 M6 ⟨u6, h6⟩ => ?_
  rw [List.nil_append] at h6
  have u : Up M M5 := (((u1.trans u2).trans u3).trans u4).trans u5
  exact ⟨u6.tdx _ _ _, nts_of h6.sl, hQ _ _ ⟨u.trans u6, Nw.base h6 u.n⟩⟩

theorem alone_ok {M : Store} {v : Value} {l : List UInt8} (h : B M v l) (hl : l.length ≤ 2 ^ 24) : R F.reco_alone #[v] M fun r M' => Up M M' ∧ ∃ a n c, r = .tuple #[.slice a n c, .bool (wholeF l).isSome] ∧ B M' (.slice a n c) ((wholeF l).getD []) := by
  refine R.cps fun Q hQ => ?_
  apply T_reco_alone
  unfold S_reco_alone
  have no : ∀ M', Up M M' → wholeF l = none → NTs [.slice none 0 0, .bool false] ∧ Q (.tuple #[.slice none 0 0, .bool false]) M' := by
    intro M' hM hn
    refine ⟨rfl, hQ _ _ ⟨hM, none, 0, 0, ?_⟩⟩
    rw [hn]; exact ⟨rfl, Sl.nil _ _ _⟩
  refine (Scan_ok h hl).mono fun r M1 ⟨hu1, w, hr, hw⟩ => ?_
  subst hr
  rw [tup2_0, OP_some, tup2_1, OP_some, hw.ls.lenV, OP_some, e_neq, BR_dec]
  split
  · rename_i hne
    refine no _ hu1 ?_
    unfold wholeF
    split
    · rename_i h1; rw [h1] at hne; exact absurd rfl hne
    · rfl
  rename_i hone
  have hone : (scanF l).length = 1 := by omega
  obtain ⟨x, hx⟩ := List.length_eq_one_iff.1 hone
  have hxl := scanF_flen l
  rw [hx] at hw hxl ⊢
  have hf : flen [x] = x.length + 10 := by simp [flen]
  rw [hf] at hxl ⊢
  rw [h.lenV, OP_some, e_neq, BR_dec]
  split
  · rename_i hne
    refine no _ hu1 ?_
    unfold wholeF
    rw [hx]; simp only
    rw [if_neg (by omega)]
  rename_i hle
  have hwh : wholeF l = some x := by
    unfold wholeF
    rw [hx]; simp only
    rw [if_pos (by omega)]
  obtain ⟨p, q, e1, e2, hq⟩ := hw.ls.at (i := 0) (by simp) .i64
  have e1 : ixA 1 w (.int .i64 0) = some p := e1
  have hq : B M1 q x := hq
  rw [e1, OP_some, e2, OP_some]
  obtain ⟨a, c, rfl⟩ := hq.slice
  refine ⟨rfl, hQ _ _ ⟨hu1, a, x.length, c, ?_⟩⟩
  rw [hwh]
  exact ⟨rfl, hq⟩

/-- A number read: what is left, and whether it failed. -/
def Rn (top : Nat) (l : List UInt8) (bad : Bool) (n : Nat) (l' : List UInt8) (bad' : Bool) : Prop := rdNum top l bad = if bad' = true then none else some (n, l')
theorem rdNum_bad (top : Nat) (l : List UInt8) : rdNum top l true = none := by simp [rdNum]
theorem rNumA {M : Store} {b : Nat} {l : List UInt8} {bad : Bool} {top : Nat} (h : Rd Ty.code_Reader M b l bad) (ht : top ≤ 2 ^ 40) (hl : l.length ≤ 2 ^ 24) :
    R F.code_Reader_Num #[.pointer (some ⟨b, 0, none⟩), .int .i64 top] M fun v M' => Ch [b] M M' ∧ ∃ (n : Nat) (l' : List UInt8) (bad' : Bool), v = .int .i64 n ∧ l'.length ≤ l.length ∧ Rd Ty.code_Reader M' b l' bad' ∧ Rn top l bad n l' bad' := by
  refine (rNum_ok h ht hl).mono fun v M' ⟨hc, h1⟩ => ⟨hc, ?_⟩
  split at h1
  · rename_i n r hn
    have := rdNum_len hn
    exact ⟨n, r, false, h1.1, by omega, h1.2, by rw [Rn, hn]; rfl⟩
  · rename_i hn
    exact ⟨0, [], true, h1.1, by simp, h1.2, by rw [Rn, hn]; rfl⟩

def top40 : Nat := 1099511627776
/-- Four numbers, and no more. -/
def open4 (x : List UInt8) : Option (Nat × Nat × Nat × Nat) :=
  (rdNum top40 x false).bind fun p => (rdNum top40 p.2 false).bind fun q => (rdNum top40 q.2 false).bind fun r => (rdNum top40 r.2 false).bind fun s => if s.2.isEmpty then some (p.1, q.1, r.1, s.1) else none
theorem open4_of {x : List UInt8} {n1 n2 n3 n4 : Nat} {l1 l2 l3 l4 : List UInt8} {b1 b2 b3 b4 : Bool} (h1 : Rn top40 x false n1 l1 b1) (h2 : Rn top40 l1 b1 n2 l2 b2) (h3 : Rn top40 l2 b2 n3 l3 b3) (h4 : Rn top40 l3 b3 n4 l4 b4) :
    open4 x = if (!b4 && l4.isEmpty) = true then some (n1, n2, n3, n4) else none := by
  unfold Rn at h1 h2 h3 h4
  unfold open4
  cases b1 with
  | true =>
    rw [rdNum_bad] at h2
    cases b2 with
    | false => cases h2
    | true =>
      rw [rdNum_bad] at h3
      cases b3 with
      | false => cases h3
      | true =>
        rw [rdNum_bad] at h4
        cases b4 with
        | false => cases h4
        | true => rw [h1]; rfl
  | false =>
    rw [if_neg (by simp)] at h1
    rw [h1, Option.bind_some]
    cases b2 with
    | true =>
      rw [rdNum_bad] at h3
      cases b3 with
      | false => cases h3
      | true =>
        rw [rdNum_bad] at h4
        cases b4 with
        | false => cases h4
        | true => simp only [h2]; rfl
    | false =>
      rw [if_neg (by simp)] at h2
      simp only [h2, Option.bind_some]
      cases b3 with
      | true =>
        rw [rdNum_bad] at h4
        cases b4 with
        | false => cases h4
        | true => simp only [h3]; rfl
      | false =>
        rw [if_neg (by simp)] at h3
        simp only [h3, Option.bind_some]
        cases b4 with
        | true => simp only [h4]; rfl
        | false =>
          rw [if_neg (by simp)] at h4
          simp only [h4, Option.bind_some]; rfl
def openLockF (l : List UInt8) : Option (Nat × Nat × Nat × Nat) := (wholeF l).bind open4
def lkO : Option (Nat × Nat × Nat × Nat) → Value
  | some (a, b, c, d) => lkv a b c d
  | none => lkv 0 0 0 0

theorem ne_lk : Ty.uint8 ≠ Ty.api_Lock := by decide
theorem ne_dn : Ty.uint8 ≠ Ty.api_Done := by decide
theorem Rd.other {T T' : TypeId} {M : Store} {b c : Nat} {l : List UInt8} {bad : Bool} {cells : List Value} (h : Rd T M b l bad) (ho : Ob M c cells T') (hne : b ≠ c) (hT : Ty.uint8 ≠ T') (c' : List Value) : Rd T (M.set c (some (.inl (c', T', true)))) b l bad := by
  obtain ⟨w, h1, h2⟩ := h
  exact ⟨w, h1.same (Store.get_set_ne _ _ (Ne.symm hne)), B.set ho hT c' h2⟩

theorem OpenLock_ok {M : Store} {v : Value} {l : List UInt8} (h : B M v l) (hl : l.length ≤ 2 ^ 24) : R F.reco_OpenLock #[v] M fun r M' => Up M M' ∧ r = .tuple #[lkO (openLockF l), .bool (openLockF l).isSome] := by
  refine R.cps fun Q hQ => ?_
  apply T_reco_OpenLock
  unfold S_reco_OpenLock
  rw [LT_eq]
  have o1 := Ob.new M [.int .i64 0, .int .i64 0, .int .i64 0, .int .i64 0] Ty.api_Lock
  have u1 := Up.push M (some (.inl ([Value.int .i64 0, .int .i64 0, .int .i64 0, .int .i64 0], Ty.api_Lock, true)))
  have n1 : (M.push (some (.inl ([Value.int .i64 0, .int .i64 0, .int .i64 0, .int .i64 0], Ty.api_Lock, true)))).n = M.n + 1 := rfl
  generalize M.push (some (.inl ([Value.int .i64 0, .int .i64 0, .int .i64 0, .int .i64 0], Ty.api_Lock, true))) = M1 at *
  refine (alone_ok (Sl.up h u1) hl).mono fun r M2 ⟨u2, a, n, c, hr, hw⟩ => ?_
  subst hr
  have hx : ((wholeF l).getD []).length ≤ 2 ^ 24 := by
    cases hwl : wholeF l with
    | none => simp
    | some x => have := wholeF_len hwl; simp; omega
  rw [tup2_0, OP_some, tup2_1, OP_some]
  refine (Read_ok hw hx).mono fun r M3 ⟨u3, b, hr, hbn, hR⟩ => ?_
  subst hr
  have hn2 := u2.n
  have hn3 := u3.n
  refine (rNumA (top := 1099511627776) hR (by omega) hx).mono fun v4 M4 ⟨c4, k1, l1, b1, e4, hl1, hR1, hn_1⟩ => ?_
  subst e4
  refine (rNumA (top := 1099511627776) hR1 (by omega) (by omega)).mono fun v5 M5 ⟨c5, k2, l2, b2, e5, hl2, hR2, hn_2⟩ => ?_
  subst e5
  have hn4 := c4.n
  have hn5 := c5.n
  have hbl : b < M5.n := by obtain ⟨w, hob, _⟩ := hR2; exact hob.lt
  rw [bl_lk2, OP_some, LT_eq]
  refine mk4 (lk_cells _ _ _ _) (lk_one _ _ _ _) fun M7 u7 o7 n7 => ?_
  refine (rNumA (top := 1099511627776) (hR2.up u7) (by omega) (by omega)).mono fun v8 M8 ⟨c8, k3, l3, b3, e8, hl3, hR3, hn_3⟩ => ?_
  subst e8
  refine (rNumA (top := 1099511627776) hR3 (by omega) (by omega)).mono fun v9 M9 ⟨c9, k4, l4, b4, e9, hl4, hR4, hn_4⟩ => ?_
  subst e9
  have hn8 := c8.n
  have hn9 := c9.n
  simp only [e_fad, Nat.zero_add]
  have o9 : Ob M9 M5.n [.int .i64 k1, .int .i64 k2, .int .i64 0, .int .i64 0] Ty.api_Lock := (c8.trans c9).at o7 (by simp; omega)
  rw [o9.st (o := 2) (by simp) rfl rfl, OP_some]
  have c10 := Ch.setO o9 (some (.inl ([Value.int .i64 k1, .int .i64 k2, .int .i64 0, .int .i64 0].set 2 (.int .i64 k3), Ty.api_Lock, true)))
  have o10 := o9.setSt ([Value.int .i64 k1, .int .i64 k2, .int .i64 0, .int .i64 0].set 2 (.int .i64 k3))
  have hR5 := hR4.other o9 (by omega) ne_lk ([Value.int .i64 k1, .int .i64 k2, .int .i64 0, .int .i64 0].set 2 (.int .i64 k3))
  generalize M9.set M5.n (some (.inl ([Value.int .i64 k1, .int .i64 k2, .int .i64 0, .int .i64 0].set 2 (.int .i64 k3), Ty.api_Lock, true))) = M10 at *
  rw [o10.st (o := 3) (by simp) rfl rfl, OP_some]
  have c11 := Ch.setO o10 (some (.inl (([Value.int .i64 k1, .int .i64 k2, .int .i64 0, .int .i64 0].set 2 (.int .i64 k3)).set 3 (.int .i64 k4), Ty.api_Lock, true)))
  have o11 := o10.setSt (([Value.int .i64 k1, .int .i64 k2, .int .i64 0, .int .i64 0].set 2 (.int .i64 k3)).set 3 (.int .i64 k4))
  have hR6 := hR5.other o10 (by omega) ne_lk (([Value.int .i64 k1, .int .i64 k2, .int .i64 0, .int .i64 0].set 2 (.int .i64 k3)).set 3 (.int .i64 k4))
  generalize M10.set M5.n (some (.inl (([Value.int .i64 k1, .int .i64 k2, .int .i64 0, .int .i64 0].set 2 (.int .i64 k3)).set 3 (.int .i64 k4), Ty.api_Lock, true))) = M11 at *
  have o11 : Ob M11 M5.n [.int .i64 k1, .int .i64 k2, .int .i64 k3, .int .i64 k4] Ty.api_Lock := o11
  have u13 : Up M1 M3 := u2.trans u3
  have u15 : Up M1 M5 := u13.ch (c4.trans c5) fun c hc => by simp at hc; omega
  have u17 : Up M1 M7 := u15.trans u7
  have u19 : Up M1 M9 := u17.ch (c8.trans c9) fun c hc => by simp at hc; omega
  have u111 : Up M1 M11 := u19.ch (c10.trans c11) fun c hc => by simp at hc; omega
  have op11 := o1.up u111
  have h4 := open4_of hn_1 hn_2 hn_3 hn_4
  have no : openLockF l = none → ∀ K : Prop, (K = OP (bldS #[.int .i64 0, .int .i64 0, .int .i64 0, .int .i64 0] [(0, 1), (1, 1), (2, 1), (3, 1)] []) fun t33 => OP (st 4 (.pointer (some ⟨M.n, 0, none⟩)) t33 M11) fun M12 => OP (ld 4 true (.pointer (some ⟨M.n, 0, none⟩)) M12) fun r2 => NTs [r2, .bool false] ∧ Q (.tuple #[r2, .bool false]) M12) → K := by
    rintro hn K rfl
    rw [bl_lk0, OP_some, st4_ok op11 rfl (lk_cells _ _ _ _) (lk_one _ _ _ _), OP_some, (op11.setSt _).ldA (s := 4) rfl, OP_some]
    refine ⟨rfl, hQ _ _ ⟨?_, by rw [hn]; rfl⟩⟩
    exact Up.ch (u1.trans u111) (Ch.setO op11 _) fun c hc => by simp at hc; omega
  rw [e_not, BR_bool]
  split
  · rename_i hb
    refine no ?_ _ rfl
    have : wholeF l = none := by simpa using hb
    rw [openLockF, this]; rfl
  rename_i hb
  have hsome : (wholeF l).isSome = true := by
    cases hh : (wholeF l).isSome with
    | true => rfl
    | false => rw [hh] at hb; exact absurd rfl hb
  obtain ⟨x, hx2⟩ := Option.isSome_iff_exists.1 hsome
  have ho : openLockF l = open4 x := by rw [openLockF, hx2]; rfl
  rw [hx2, Option.getD_some] at h4
  refine (End_ok hR6).mono fun v12 M12 ⟨e12, e13⟩ => ?_
  subst e12; subst e13
  rw [e_not, BR_bool]
  split
  · rename_i hb2
    refine no ?_ _ rfl
    rw [ho, h4, if_neg (fun hx => by rw [hx] at hb2; cases hb2)]
  · rename_i hb2
    have eld : ld 4 true (.pointer (some ⟨M5.n, 0, none⟩)) M12 = some (lkv k1 k2 k3 k4) := o11.ldA (s := 4) rfl
    rw [eld, OP_some, st4_ok op11 rfl (lk_cells _ _ _ _) (lk_one _ _ _ _), OP_some, (op11.setSt _).ldA (s := 4) rfl, OP_some]
    refine ⟨rfl, hQ _ _ ⟨Up.ch (u1.trans u111) (Ch.setO op11 _) fun c hc => by simp at hc; omega, ?_⟩⟩
    rw [ho, h4, if_pos (by cases hx : (!b4 && l4.isEmpty) with | true => rfl | false => rw [hx] at hb2; exact absurd rfl hb2)]; rfl

end Go.G

namespace Go.G
open Go.Ab Go.Proofs Go.RowKit
set_option linter.unusedVariables false
set_option linter.unusedSimpArgs false
set_option maxRecDepth 100000

theorem rrNumA {M : Store} {b : Nat} {l : List UInt8} {bad : Bool} {top : Nat} (h : Rd Ty.fettleref1_Reader M b l bad) (ht : top ≤ 2 ^ 40) (hl : l.length ≤ 2 ^ 24) :
    R F.fettleref1_Reader_Num #[.pointer (some ⟨b, 0, none⟩), .int .i64 top] M fun v M' => Ch [b] M M' ∧ ∃ (n : Nat) (l' : List UInt8) (bad' : Bool), v = .int .i64 n ∧ l'.length ≤ l.length ∧ Rd Ty.fettleref1_Reader M' b l' bad' ∧ Rn top l bad n l' bad' := by
  refine (rrNum_ok h ht hl).mono fun v M' ⟨hc, h1⟩ => ⟨hc, ?_⟩
  split at h1
  · rename_i n r hn
    have := rdNum_len hn
    exact ⟨n, r, false, h1.1, by omega, h1.2, by rw [Rn, hn]; rfl⟩
  · rename_i hn
    exact ⟨0, l, true, h1.1, by omega, h1.2, by rw [Rn, hn]; rfl⟩

theorem ROpenLock_ok {M : Store} {v : Value} {l : List UInt8} (h : B M v l) (hl : l.length ≤ 2 ^ 24) : R F.fettleref10_OpenLock #[v] M fun r M' => Up M M' ∧ r = .tuple #[lkO (openLockF l), .bool (openLockF l).isSome] := by
  refine R.cps fun Q hQ => ?_
  apply T_fettleref10_OpenLock
  unfold S_fettleref10_OpenLock
  rw [LT_eq]
  have o1 := Ob.new M [.int .i64 0, .int .i64 0, .int .i64 0, .int .i64 0] Ty.api_Lock
  have u1 := Up.push M (some (.inl ([Value.int .i64 0, .int .i64 0, .int .i64 0, .int .i64 0], Ty.api_Lock, true)))
  have n1 : (M.push (some (.inl ([Value.int .i64 0, .int .i64 0, .int .i64 0, .int .i64 0], Ty.api_Lock, true)))).n = M.n + 1 := rfl
  generalize M.push (some (.inl ([Value.int .i64 0, .int .i64 0, .int .i64 0, .int .i64 0], Ty.api_Lock, true))) = M1 at *
  refine (whole_ok (Sl.up h u1) hl).mono fun r M2 ⟨u2, a, n, c, hr, hw⟩ => ?_
  subst hr
  have hx : ((wholeF l).getD []).length ≤ 2 ^ 24 := by
    cases hwl : wholeF l with
    | none => simp
    | some x => have := wholeF_len hwl; simp; omega
  have e1 : bldS #[.slice none 0 0, .bool false] [(0, 1), (1, 1)] [(0, .slice a n c)] = some (.agg #[.slice a n c, .bool false]) := by kernel_rfl
  have e2 : boxv (.agg #[.slice a n c, .bool false]) = some [.slice a n c, .bool false] := by kernel_rfl
  rw [tup2_0, OP_some, tup2_1, OP_some, e1, OP_some, e2, OP_some, LT_eq]
  have u3 := Up.push M2 (some (.inl ([.slice a n c, .bool false], Ty.fettleref1_Reader, true)))
  have o3 := Ob.new M2 [.slice a n c, .bool false] Ty.fettleref1_Reader
  have n3 : (M2.push (some (.inl ([.slice a n c, .bool false], Ty.fettleref1_Reader, true)))).n = M2.n + 1 := rfl
  generalize M2.push (some (.inl ([.slice a n c, .bool false], Ty.fettleref1_Reader, true))) = M3 at *
  have hR : Rd Ty.fettleref1_Reader M3 M2.n ((wholeF l).getD []) false := ⟨_, o3, Sl.up hw u3⟩
  have hn2 := u2.n
  refine (rrNumA (top := 1099511627776) hR (by omega) hx).mono fun v4 M4 ⟨c4, k1, l1, b1, e4, hl1, hR1, hn_1⟩ => ?_
  subst e4
  refine (rrNumA (top := 1099511627776) hR1 (by omega) (by omega)).mono fun v5 M5 ⟨c5, k2, l2, b2, e5, hl2, hR2, hn_2⟩ => ?_
  subst e5
  refine (rrNumA (top := 1099511627776) hR2 (by omega) (by omega)).mono fun v6 M6 ⟨c6, k3, l3, b3, e6, hl3, hR3, hn_3⟩ => ?_
  subst e6
  refine (rrNumA (top := 1099511627776) hR3 (by omega) (by omega)).mono fun v7 M7 ⟨c7, k4, l4, b4, e7, hl4, hR4, hn_4⟩ => ?_
  subst e7
  have u17 : Up M1 M7 := Up.ch (u2.trans u3) (((c4.trans c5).trans c6).trans c7) fun c hc => by simp at hc; omega
  rw [bl_lk4, OP_some, LT_eq]
  refine mk4 (lk_cells _ _ _ _) (lk_one _ _ _ _) fun M9 u9 o9 n9 => ?_
  have u19 := u17.trans u9
  have op := o1.up u19
  have h4 := open4_of hn_1 hn_2 hn_3 hn_4
  have no : openLockF l = none → ∀ K : Prop, (K = OP (bldS #[.int .i64 0, .int .i64 0, .int .i64 0, .int .i64 0] [(0, 1), (1, 1), (2, 1), (3, 1)] []) fun t33 => OP (st 4 (.pointer (some ⟨M.n, 0, none⟩)) t33 M9) fun M12 => OP (ld 4 true (.pointer (some ⟨M.n, 0, none⟩)) M12) fun r2 => NTs [r2, .bool false] ∧ Q (.tuple #[r2, .bool false]) M12) → K := by
    rintro hn K rfl
    rw [bl_lk0, OP_some, st4_ok op rfl (lk_cells _ _ _ _) (lk_one _ _ _ _), OP_some, (op.setSt _).ldA (s := 4) rfl, OP_some]
    refine ⟨rfl, hQ _ _ ⟨?_, by rw [hn]; rfl⟩⟩
    exact Up.ch (u1.trans u19) (Ch.setO op _) fun c hc => by simp at hc; omega
  rw [e_not, BR_bool]
  split
  · rename_i hb
    refine no ?_ _ rfl
    have : wholeF l = none := by simpa using hb
    rw [openLockF, this]; rfl
  rename_i hb
  have hsome : (wholeF l).isSome = true := by
    cases hh : (wholeF l).isSome with
    | true => rfl
    | false => rw [hh] at hb; exact absurd rfl hb
  obtain ⟨x, hx2⟩ := Option.isSome_iff_exists.1 hsome
  have ho : openLockF l = open4 x := by rw [openLockF, hx2]; rfl
  rw [hx2, Option.getD_some] at h4
  refine (rEnd_ok (hR4.up u9)).mono fun v12 M12 ⟨e12, e13⟩ => ?_
  subst e12; subst e13
  rw [e_not, BR_bool]
  split
  · rename_i hb2
    refine no ?_ _ rfl
    rw [ho, h4, if_neg (fun hx => by rw [hx] at hb2; cases hb2)]
  · rename_i hb2
    have eld : ld 4 true (.pointer (some ⟨M7.n, 0, none⟩)) M12 = some (lkv k1 k2 k3 k4) := o9.ldA (s := 4) rfl
    rw [eld, OP_some, st4_ok op rfl (lk_cells _ _ _ _) (lk_one _ _ _ _), OP_some, (op.setSt _).ldA (s := 4) rfl, OP_some]
    refine ⟨rfl, hQ _ _ ⟨Up.ch (u1.trans u19) (Ch.setO op _) fun c hc => by simp at hc; omega, ?_⟩⟩
    rw [ho, h4, if_pos (by cases hx : (!b4 && l4.isEmpty) with | true => rfl | false => rw [hx] at hb2; exact absurd rfl hb2)]; rfl

/-! Names. -/
theorem e_lenS (l : List UInt8) (K : Value → Prop) : OP (lenS (.string ⟨l.toArray⟩)) K = K (.int .i64 (l.length : Int)) := rfl
theorem e_ixS {l : List UInt8} {i : Nat} (hi : i < l.length) : ixS (.string ⟨l.toArray⟩) (.int .i64 (i : Int)) = some (bv l[i]) := by
  simp only [ixS]
  rw [if_pos (by omega)]
  have h1 : (i : Int).toNat < (⟨l.toArray⟩ : ByteArray).size := hi
  have : (⟨l.toArray⟩ : ByteArray)[(i : Int).toNat]? = some l[i] := by
    rw [getElem?_pos (⟨l.toArray⟩ : ByteArray) (i : Int).toNat h1]; rfl
  rw [this]; rfl
def okc (c : UInt8) : Bool := (decide (97 ≤ c.toNat) && decide (c.toNat ≤ 122)) || (decide (48 ≤ c.toNat) && decide (c.toNat ≤ 57)) || decide (c.toNat = 46) || decide (c.toNat = 45) || decide (c.toNat = 95)
theorem okc_iff (c : UInt8) : okc c = true ↔ ((97 ≤ c.toNat ∧ c.toNat ≤ 122) ∨ (48 ≤ c.toNat ∧ c.toNat ≤ 57) ∨ c.toNat = 46 ∨ c.toNat = 45 ∨ c.toNat = 95) := by
  simp only [okc, Bool.or_eq_true, Bool.and_eq_true, decide_eq_true_eq]; omega
theorem letter_ok (M : Store) (c : UInt8) : R F.name_letter #[bv c] M fun v M' => M' = M ∧ v = .bool (okc c) := by
  refine R.cps fun Q hQ => ?_
  apply T_name_letter
  unfold S_name_letter
  have hc := okc_iff c
  have yes : okc c = true → NTs [.bool true] ∧ Q (.bool true) M := fun h => ⟨rfl, hQ _ _ ⟨rfl, by rw [h]⟩⟩
  have no : ¬ okc c = true → NTs [.bool false] ∧ Q (.bool false) M := fun h => ⟨rfl, hQ _ _ ⟨rfl, by rw [Bool.eq_false_iff.2 h]⟩⟩
  simp only [bv, e_geq, e_leq, e_eql, BR_dec]
  repeat' split
  all_goals first
    | exact yes (hc.2 (by omega))
    | exact no (fun h => by have := hc.1 h; omega)

def okName (l : List UInt8) : Bool := l.all okc && decide (1 ≤ l.length) && decide (l.length ≤ 16)
theorem nameOk_loop {M : Store} {l : List UInt8} (hl : l.length ≤ 2 ^ 40) {Q : Value → Store → Prop} (hQ : Q (.bool (okName l)) M) : ∀ (d i : Nat), d + i = l.length → (l.take i).all okc = true →
    P_name_Ok_1 (.string ⟨l.toArray⟩) (.int .i64 (l.length : Int)) (.int .i64 (i : Int)) M Q := by
  intro d
  induction d with
  | zero =>
    intro i hi hall
    apply T_name_Ok_1
    unfold S_name_Ok_1
    rw [e_lss, BR_dec, if_neg (by omega)]
    apply T_name_Ok_2
    unfold S_name_Ok_2
    rw [List.take_of_length_le (by omega)] at hall
    rw [e_lenS, e_geq, BR_dec]
    split
    · rw [e_lenS, e_leq]
      refine ⟨rfl, ?_⟩
      have : okName l = decide (((l.length : Nat) : Int) ≤ 16) := by
        rw [okName, hall, decide_eq_true (show 1 ≤ l.length by omega), Bool.true_and, Bool.true_and, decide_eq_decide]; omega
      rw [this] at hQ; exact hQ
    · refine ⟨rfl, ?_⟩
      have : okName l = false := by
        rw [okName, hall, decide_eq_false (show ¬ 1 ≤ l.length by omega)]; rfl
      rw [this] at hQ; exact hQ
  | succ d ih =>
    intro i hi hall
    apply T_name_Ok_1
    unfold S_name_Ok_1
    rw [e_lss, BR_dec, if_pos (by omega), e_ixS (by omega), OP_some]
    refine (letter_ok M _).mono fun v M1 ⟨e1, e2⟩ => ?_
    subst e1; subst e2
    rw [e_not, BR_bool]
    split
    · rename_i hb
      refine ⟨rfl, ?_⟩
      have : okName l = false := by
        have h1 : l.all okc = false := by
          rw [List.all_eq_false]
          exact ⟨_, List.getElem_mem (show i < l.length by omega), by simpa using hb⟩
        rw [okName, h1]; rfl
      rw [this] at hQ; exact hQ
    · rename_i hb
      rw [e_add, w64 (by omega) (by omega)]
      refine ih (i + 1) (by omega) ?_
      rw [List.take_succ_eq_append_getElem (by omega), List.all_append, hall]
      simpa using hb
theorem nameOk_ok {M : Store} {l : List UInt8} (hl : l.length ≤ 2 ^ 40) : R F.name_Ok #[.string ⟨l.toArray⟩] M fun v M' => M' = M ∧ v = .bool (okName l) := by
  refine R.cps fun Q hQ => ?_
  apply T_name_Ok
  unfold S_name_Ok
  rw [e_lenS]
  exact nameOk_loop hl (hQ _ _ ⟨rfl, rfl⟩) l.length 0 rfl rfl

theorem BR3_dec (p : Prop) [Decidable p] (A B C : Prop) : BR3 (.bool (decide p)) A B C = if p then A else B := by
  by_cases hp : p <;> simp [hp, BR3]
theorem refOk_loop {M : Store} {l : List UInt8} (hl : l.length ≤ 2 ^ 40) {Q : Value → Store → Prop} (hQ : Q (.bool (okName l)) M) : ∀ (d i : Nat), d + i = l.length → (l.take i).all okc = true →
    P_fettleref4_Ok_1 (.string ⟨l.toArray⟩) (.int .i64 (i : Int)) M Q := by
  intro d
  induction d with
  | zero =>
    intro i hi hall
    apply T_fettleref4_Ok_1
    unfold S_fettleref4_Ok_1
    rw [e_lenS, e_lss, BR_dec, if_neg (by omega)]
    apply T_fettleref4_Ok_3
    unfold S_fettleref4_Ok_3
    rw [List.take_of_length_le (by omega)] at hall
    rw [e_lenS, e_geq, BR_dec]
    split
    · rw [e_lenS, e_leq]
      refine ⟨rfl, ?_⟩
      have : okName l = decide (((l.length : Nat) : Int) ≤ 16) := by
        rw [okName, hall, decide_eq_true (show 1 ≤ l.length by omega), Bool.true_and, Bool.true_and, decide_eq_decide]; omega
      rw [this] at hQ; exact hQ
    · refine ⟨rfl, ?_⟩
      have : okName l = false := by
        rw [okName, hall, decide_eq_false (show ¬ 1 ≤ l.length by omega)]; rfl
      rw [this] at hQ; exact hQ
  | succ d ih =>
    intro i hi hall
    apply T_fettleref4_Ok_1
    unfold S_fettleref4_Ok_1
    rw [e_lenS, e_lss, BR_dec, if_pos (by omega)]
    apply T_fettleref4_Ok_2
    unfold S_fettleref4_Ok_2
    rw [e_ixS (by omega), OP_some]
    have hc := okc_iff (l[i]'(by omega))
    have no : ¬ okc (l[i]'(by omega)) = true → NTs [.bool false] ∧ Q (.bool false) M := by
      intro hb
      refine ⟨rfl, ?_⟩
      have : okName l = false := by
        have h1 : l.all okc = false := by
          rw [List.all_eq_false]
          exact ⟨_, List.getElem_mem (show i < l.length by omega), by simpa using hb⟩
        rw [okName, h1]; rfl
      rw [this] at hQ; exact hQ
    have yes : okc (l[i]'(by omega)) = true → OP (binI .add (.int .i64 (i : Int)) (.int .i64 1)) fun t => P_fettleref4_Ok_1 (.string ⟨l.toArray⟩) t M Q := by
      intro hb
      rw [e_add, w64 (by omega) (by omega)]
      refine ih (i + 1) (by omega) ?_
      rw [List.take_succ_eq_append_getElem (by omega), List.all_append, hall]
      simpa using hb
    generalize l[i]'(by omega) = c at *
    have e_bt : ∀ A B : Prop, BR (.bool true) A B = A := fun _ _ => rfl
    have e_bf : ∀ A B : Prop, BR (.bool false) A B = B := fun _ _ => rfl
    have e_nd : ∀ (p : Prop) [Decidable p] (K : Value → Prop), OP (aun .not (.bool (decide p))) K = K (.bool (decide (¬ p))) := by
      intro p _ K; rw [e_not]; by_cases hp : p <;> simp [hp]
    simp only [bv, e_geq, e_leq, e_eql, BR_dec, BR3_dec, e_nd, e_not, Bool.not_true, e_bf, e_bt]
    repeat' split
    all_goals first
      | exact yes (hc.2 (by omega))
      | exact no (fun h => by have := hc.1 h; omega)
theorem refOk_ok {M : Store} {l : List UInt8} (hl : l.length ≤ 2 ^ 40) : R F.fettleref4_Ok #[.string ⟨l.toArray⟩] M fun v M' => M' = M ∧ v = .bool (okName l) := by
  refine R.cps fun Q hQ => ?_
  apply T_fettleref4_Ok
  unfold S_fettleref4_Ok
  exact refOk_loop hl (hQ _ _ ⟨rfl, rfl⟩) l.length 0 rfl rfl

end Go.G

namespace Go.G
open Go.Ab Go.Proofs Go.RowKit
set_option linter.unusedVariables false
set_option linter.unusedSimpArgs false
set_option maxRecDepth 100000

def dnv (nm : List UInt8) (a b : Int) (ad : Option Addr) (n c : Nat) : Value := .agg #[.string ⟨nm.toArray⟩, .int .i64 a, .int .i64 b, .slice ad n c]
abbrev dnc (nm : List UInt8) (a b : Int) (ad : Option Addr) (n c : Nat) : List Value := [.string ⟨nm.toArray⟩, .int .i64 a, .int .i64 b, .slice ad n c]
theorem bx_dn (nm : List UInt8) (a b : Int) (ad : Option Addr) (n c : Nat) : boxv (dnv nm a b ad n c) = some (dnc nm a b ad n c) := by kernel_rfl
theorem dn_cells (nm : List UInt8) (a b : Int) (ad : Option Addr) (n c : Nat) : (dnv nm a b ad n c).cells = #[.string ⟨nm.toArray⟩, .int .i64 a, .int .i64 b, .slice ad n c] := by kernel_rfl
theorem dn_one (nm : List UInt8) (a b : Int) (ad : Option Addr) (n c : Nat) : (dnv nm a b ad n c).cells.all (·.oneCell') = true := by kernel_rfl
abbrev dnz : Array Value := #[.string ⟨#[]⟩, .int .i64 0, .int .i64 0, .slice none 0 0]
abbrev dnq : List (Nat × Nat) := [(0, 1), (1, 1), (2, 1), (3, 1)]
theorem bl_dn1 (nm : List UInt8) : bldS dnz dnq [(0, .string ⟨nm.toArray⟩)] = some (dnv nm 0 0 none 0 0) := by kernel_rfl
theorem bl_dn0 : bldS dnz dnq [] = some (dnv [] 0 0 none 0 0) := by kernel_rfl

/-- A doing: its name, two numbers, what it wrote. -/
abbrev Dng := List UInt8 × Int × Int × List UInt8
def Dn (M : Store) (w : Value) (d : Dng) : Prop := ∃ ad n c, w = dnv d.1 d.2.1 d.2.2.1 ad n c ∧ B M (.slice ad n c) d.2.2.2
theorem Dn.up {M M' : Store} {w : Value} {d : Dng} (h : Dn M w d) (k : Up M M') : Dn M' w d := by
  obtain ⟨ad, n, c, e, h⟩ := h; exact ⟨ad, n, c, e, Sl.up h k⟩
def okNum (a : Int) : Bool := decide (0 ≤ a) && decide (a ≤ 1099511627776)
def okDone (d : Dng) : Bool := okName d.1 && decide (d.2.2.2.length ≤ 4000) && okNum d.2.1 && okNum d.2.2.1
/-- What a doing is as bytes. -/
def doneF (d : Dng) : List UInt8 := if okDone d = true then be 6 d.1.length ++ d.1 ++ be 6 d.2.2.2.length ++ d.2.2.2 ++ be 6 (held d.2.1) ++ be 6 (held d.2.2.1) else []

theorem num_ok (M : Store) (a : Int) : R F.reco_num #[.int .i64 a] M fun v M' => M' = M ∧ v = .bool (okNum a) := by
  refine R.cps fun Q hQ => ?_
  apply T_reco_num
  unfold S_reco_num
  rw [e_geq, BR_dec]
  split
  · rename_i h
    rw [e_leq]
    refine ⟨rfl, hQ _ _ ⟨rfl, ?_⟩⟩
    have : (0 : Int) ≤ a := h
    rw [okNum, decide_eq_true this]; rfl
  · rename_i h
    refine ⟨rfl, hQ _ _ ⟨rfl, ?_⟩⟩
    have : ¬ (0 : Int) ≤ a := h
    rw [okNum, decide_eq_false this]; rfl
theorem right_ok {M : Store} {w : Value} {d : Dng} (h : Dn M w d) (hn : d.1.length ≤ 2 ^ 40) : R F.reco_right #[w] M fun v M' => Up M M' ∧ v = .bool (okDone d) := by
  obtain ⟨ad, n, c, rfl, ho⟩ := h
  refine R.cps fun Q hQ => ?_
  apply T_reco_right
  unfold S_reco_right
  rw [bx_dn, OP_some, LT_eq]
  have o1 := Ob.new M (dnc d.1 d.2.1 d.2.2.1 ad n c) Ty.api_Done
  have u1 := Up.push M (some (.inl (dnc d.1 d.2.1 d.2.2.1 ad n c, Ty.api_Done, true)))
  generalize M.push (some (.inl (dnc d.1 d.2.1 d.2.2.1 ad n c, Ty.api_Done, true))) = M1 at *
  simp only [e_fad, Nat.zero_add]
  rw [o1.ld (o := 0) rfl, OP_some]
  refine (nameOk_ok hn).mono fun v2 M2 ⟨e1, e2⟩ => ?_
  subst e1; subst e2
  rw [BR_bool]
  split
  · rename_i h1
    have hlen := ho.lenV
    rw [o1.ld (o := 3) rfl, OP_some, hlen, OP_some, e_leq, BR_dec]
    split
    · rename_i h2
      have h2' : d.2.2.2.length ≤ 4000 := by omega
      rw [o1.ld (o := 1) rfl, OP_some]
      refine (num_ok _ _).mono fun v3 M3 ⟨e3, e4⟩ => ?_
      subst e3; subst e4
      rw [BR_bool]
      split
      · rename_i h3
        rw [o1.ld (o := 2) rfl, OP_some]
        refine (num_ok _ _).mono fun v4 M4 ⟨e5, e6⟩ => ?_
        subst e5; subst e6
        refine ⟨rfl, hQ _ _ ⟨u1, ?_⟩⟩
        rw [okDone, h1, decide_eq_true h2', h3]; rfl
      · rename_i h3
        refine ⟨rfl, hQ _ _ ⟨u1, ?_⟩⟩
        rw [okDone, h1, decide_eq_true h2', Bool.eq_false_iff.2 h3]; rfl
    · rename_i h2
      have h2' : ¬ d.2.2.2.length ≤ 4000 := by omega
      refine ⟨rfl, hQ _ _ ⟨u1, ?_⟩⟩
      rw [okDone, h1, decide_eq_false h2']; rfl
  · rename_i h1
    refine ⟨rfl, hQ _ _ ⟨u1, ?_⟩⟩
    rw [okDone, Bool.eq_false_iff.2 h1]; rfl

theorem cvSB_ok {M : Store} {l : List UInt8} (hl : l.length ≤ 2 ^ 30) {K : Value → Store → Prop} (hK : ∀ v M', Up M M' → N M M' v l → K v M') : OP2 (cvSB Ty.uint8 (.string ⟨l.toArray⟩) M) K := by
  have e : cvSB Ty.uint8 (.string ⟨l.toArray⟩) M = some (.slice (some ⟨M.n, 0, none⟩) l.length (l.length + 1), M.push (some (.inl (l.map bv, Ty.uint8, true)))) := by
    have h : cvSB Ty.uint8 (.string ⟨l.toArray⟩) M = if 2 ^ 40 < l.length then none else some (.slice (some ⟨M.n, 0, none⟩) l.length (l.length + 1), M.push (some (.inl (l.map bv, Ty.uint8, true)))) := rfl
    rw [h, if_neg (by omega)]
  rw [e, OP2_some]
  exact hK _ _ (Up.push M _) (Nw.lit1 (n := l.length) (Nat.le_refl _) (by simp))

theorem Done_ok {M : Store} {w : Value} {d : Dng} (h : Dn M w d) (hn : d.1.length ≤ 2 ^ 22) (hl : d.2.2.2.length ≤ 2 ^ 22) : R F.reco_Done #[w] M fun v M' => Up M M' ∧ N M M' v (doneF d) := by
  have h' := h
  obtain ⟨ad, n, c, rfl, ho⟩ := h'
  refine R.cps fun Q hQ => ?_
  apply T_reco_Done
  unfold S_reco_Done
  rw [bx_dn, OP_some, LT_eq]
  have o1 := Ob.new M (dnc d.1 d.2.1 d.2.2.1 ad n c) Ty.api_Done
  have u1 := Up.push M (some (.inl (dnc d.1 d.2.1 d.2.2.1 ad n c, Ty.api_Done, true)))
  generalize M.push (some (.inl (dnc d.1 d.2.1 d.2.2.1 ad n c, Ty.api_Done, true))) = M1 at *
  simp only [e_fad, Nat.zero_add]
  rw [o1.ldA (s := 4) rfl, OP_some]
  refine (right_ok (h.up u1) (by omega)).mono fun v2 M2 ⟨u2, e2⟩ => ?_
  subst e2
  rw [e_not, BR_bool]
  split
  · rename_i hb
    refine ⟨rfl, hQ _ _ ⟨u1.trans u2, ?_⟩⟩
    rw [doneF, if_neg (by simpa using hb)]
    exact Nw.nil _ _ _ _
  rename_i hb
  have o2 := o1.up u2
  rw [o2.ld (o := 0) rfl, OP_some]
  refine cvSB_ok (by omega) fun v3 M3 u3 h3 => ?_
  have o3 := o2.up u3
  refine (Bytes_ok (l := []) (Sl.nil _ _ _) h3.by (by simp) (by omega)).mono fun v4 M4 ⟨u4, h4⟩ => ?_
  rw [List.nil_append] at h4
  refine ⟨u4.tdj _ _, ?_⟩
  have o4 := o3.up u4
  rw [o4.ld (o := 3) rfl, OP_some]
  refine (Bytes_ok h4.by (Sl.up (Sl.up (Sl.up (Sl.up ho u1) u2) u3) u4) (by simp [be_length]; omega) (by omega)).mono fun v5 M5 ⟨u5, h5⟩ => ?_
  refine ⟨u5.tdx _ _ _, ?_⟩
  have o5 := o4.up u5
  rw [o5.ld (o := 1) rfl, OP_some]
  refine (Num_ok h5.by (by simp [be_length]; omega) d.2.1).mono fun v6 M6 ⟨u6, h6⟩ => ?_
  refine ⟨u6.tdj _ _, ?_⟩
  have o6 := o5.up u6
  rw [o6.ld (o := 2) rfl, OP_some]
  refine (Num_ok h6.by (by simp [be_length]; omega) d.2.2.1).mono fun v7 M7 ⟨u7, h7⟩ => ?_
  have u : Up M M6 := ((((u1.trans u2).trans u3).trans u4).trans u5).trans u6
  refine ⟨u7.tdx _ _ _, nts_of h7.sl, hQ _ _ ⟨u.trans u7, ?_⟩⟩
  rw [doneF, if_pos (by simpa using hb)]
  exact Nw.base h7 u.n

theorem RDone_ok {M : Store} {w : Value} {d : Dng} (h : Dn M w d) (hn : d.1.length ≤ 2 ^ 22) (hl : d.2.2.2.length ≤ 2 ^ 22) : R F.fettleref10_Done #[w] M fun v M' => Up M M' ∧ N M M' v (doneF d) := by
  obtain ⟨ad, n, c, rfl, ho⟩ := h
  refine R.cps fun Q hQ => ?_
  apply T_fettleref10_Done
  unfold S_fettleref10_Done
  rw [bx_dn, OP_some, LT_eq]
  have o1 := Ob.new M (dnc d.1 d.2.1 d.2.2.1 ad n c) Ty.api_Done
  have u1 := Up.push M (some (.inl (dnc d.1 d.2.1 d.2.2.1 ad n c, Ty.api_Done, true)))
  generalize M.push (some (.inl (dnc d.1 d.2.1 d.2.2.1 ad n c, Ty.api_Done, true))) = M1 at *
  simp only [e_fad, Nat.zero_add]
  have no : okDone d = false → NTs [.slice none 0 0] ∧ Q (.slice none 0 0) M1 := by
    intro hb
    refine ⟨rfl, hQ _ _ ⟨u1, ?_⟩⟩
    rw [doneF, if_neg (by rw [hb]; simp)]
    exact Nw.nil _ _ _ _
  rw [o1.ld (o := 0) rfl, OP_some]
  refine (refOk_ok (by omega)).mono fun v2 M2 ⟨e1, e2⟩ => ?_
  subst e1; subst e2
  rw [e_not, BR_bool]
  split
  · rename_i hb
    exact no (by rw [okDone, show okName d.1 = false by simpa using hb]; rfl)
  rename_i h1
  have h1 : okName d.1 = true := by simpa using h1
  rw [o1.ld (o := 3) rfl, OP_some, ho.lenV, OP_some, e_gtr, BR_dec]
  split
  · rename_i hb
    exact no (by rw [okDone, h1, decide_eq_false (show ¬ d.2.2.2.length ≤ 4000 by omega)]; rfl)
  rename_i h2
  have h2 : d.2.2.2.length ≤ 4000 := by omega
  rw [o1.ld (o := 1) rfl, OP_some, e_lss, BR_dec]
  split
  · rename_i hb
    exact no (by rw [okDone, h1, decide_eq_true h2, okNum, decide_eq_false (show ¬ 0 ≤ d.2.1 by omega)]; rfl)
  rename_i h3
  rw [OP_some, e_gtr, BR_dec]
  split
  · rename_i hb
    exact no (by rw [okDone, h1, decide_eq_true h2, okNum, decide_eq_false (show ¬ d.2.1 ≤ 1099511627776 by omega)]; simp)
  rename_i h4
  rw [o1.ld (o := 2) rfl, OP_some, e_lss, BR_dec]
  split
  · rename_i hb
    exact no (by simp only [okDone, okNum, decide_eq_false (show ¬ 0 ≤ d.2.2.1 by omega)]; simp)
  rename_i h5
  rw [OP_some, e_gtr, BR_dec]
  split
  · rename_i hb
    exact no (by simp only [okDone, okNum, decide_eq_false (show ¬ d.2.2.1 ≤ 1099511627776 by omega)]; simp)
  rename_i h6
  have hok : okDone d = true := by
    simp only [okDone, okNum, h1, decide_eq_true h2, decide_eq_true (show 0 ≤ d.2.1 by omega), decide_eq_true (show 0 ≤ d.2.2.1 by omega), decide_eq_true (show d.2.1 ≤ 1099511627776 by omega), decide_eq_true (show d.2.2.1 ≤ 1099511627776 by omega)]; rfl
  rw [o1.ld (o := 0) rfl, OP_some]
  refine cvSB_ok (by omega) fun v3 M3 u3 h3 => ?_
  have o3 := o1.up u3
  refine (RBytes_ok (l := []) (Sl.nil _ _ _) h3.by (by simp) (by omega)).mono fun v4 M4 ⟨u4, h4⟩ => ?_
  rw [List.nil_append] at h4
  refine ⟨u4.tdj _ _, ?_⟩
  have o4 := o3.up u4
  rw [o4.ld (o := 3) rfl, OP_some]
  refine (RBytes_ok h4.by (Sl.up (Sl.up (Sl.up ho u1) u3) u4) (by simp [be_length]; omega) (by omega)).mono fun v5 M5 ⟨u5, h5⟩ => ?_
  refine ⟨u5.tdx _ _ _, ?_⟩
  have o5 := o4.up u5
  rw [o5.ld (o := 1) rfl, OP_some]
  refine (RNum_ok h5.by (by simp [be_length]; omega) d.2.1).mono fun v6 M6 ⟨u6, h6⟩ => ?_
  refine ⟨u6.tdj _ _, ?_⟩
  have o6 := o5.up u6
  rw [o6.ld (o := 2) rfl, OP_some]
  refine (RNum_ok h6.by (by simp [be_length]; omega) d.2.2.1).mono fun v7 M7 ⟨u7, h7⟩ => ?_
  have u : Up M M6 := (((u1.trans u3).trans u4).trans u5).trans u6
  refine ⟨u7.tdx _ _ _, nts_of h7.sl, hQ _ _ ⟨u.trans u7, ?_⟩⟩
  rw [doneF, if_pos hok]
  exact Nw.base h7 u.n

end Go.G

namespace Go.G
open Go.Ab Go.Proofs Go.RowKit
set_option linter.unusedVariables false
set_option linter.unusedSimpArgs false
set_option maxRecDepth 100000

/-- Bytes read: what is left, and whether it failed. -/
def Rb (top : Nat) (l : List UInt8) (bad : Bool) (x : List UInt8) (l' : List UInt8) (bad' : Bool) : Prop := rdBytes top l bad = if bad' = true then none else some (x, l')
theorem rdBytes_bad (top : Nat) (l : List UInt8) : rdBytes top l true = none := by simp [rdBytes, rdNum]
theorem Rb.len {top : Nat} {l x l' : List UInt8} {bad : Bool} (h : rdBytes top l bad = some (x, l')) : x.length ≤ top ∧ x.length + 6 + l'.length = l.length := by
  cases bad with
  | true => rw [rdBytes_bad] at h; cases h
  | false => have := rdBytes_len h; exact ⟨this.1, this.2.1⟩
theorem rBytesA {M : Store} {b : Nat} {l : List UInt8} {bad : Bool} {top : Nat} (h : Rd Ty.code_Reader M b l bad) (ht : top ≤ 2 ^ 40) (hl : l.length ≤ 2 ^ 24) :
    R F.code_Reader_Bytes #[.pointer (some ⟨b, 0, none⟩), .int .i64 top] M fun v M' => Ch [b] M M' ∧ ∃ (x l' : List UInt8) (bad' : Bool), x.length ≤ l.length ∧ l'.length ≤ l.length ∧ N M M' v x ∧ Rd Ty.code_Reader M' b l' bad' ∧ Rb top l bad x l' bad' := by
  refine (rBytesN_ok h ht hl).mono fun v M' ⟨hc, h1⟩ => ⟨hc, ?_⟩
  split at h1
  · rename_i x r hn
    have := Rb.len hn
    exact ⟨x, r, false, by omega, by omega, h1.1, h1.2, by rw [Rb, hn]; rfl⟩
  · rename_i hn
    exact ⟨[], [], true, by simp, by simp, h1.1, h1.2, by rw [Rb, hn]; rfl⟩
theorem rrBytesA {M : Store} {b : Nat} {l : List UInt8} {bad : Bool} {top : Nat} (h : Rd Ty.fettleref1_Reader M b l bad) (ht : top ≤ 2 ^ 40) (hl : l.length ≤ 2 ^ 24) :
    R F.fettleref1_Reader_Bytes #[.pointer (some ⟨b, 0, none⟩), .int .i64 top] M fun v M' => Ch [b] M M' ∧ ∃ (x l' : List UInt8) (bad' : Bool), x.length ≤ l.length ∧ l'.length ≤ l.length ∧ B M' v x ∧ Rd Ty.fettleref1_Reader M' b l' bad' ∧ Rb top l bad x l' bad' := by
  refine (rrBytes_ok h ht hl).mono fun v M' ⟨hc, h1⟩ => ⟨hc, ?_⟩
  split at h1
  · rename_i x r hn
    have := Rb.len hn
    exact ⟨x, r, false, by omega, by omega, h1.1, h1.2, by rw [Rb, hn]; rfl⟩
  · rename_i hn
    obtain ⟨h2, r, hr, h3⟩ := h1
    exact ⟨[], r, true, by simp, hr, h2, h3, by rw [Rb, hn]; rfl⟩

/-- The doing that bytes are. -/
def openDoneF (l : List UInt8) : Option Dng :=
  (rdBytes 16 l false).bind fun p => (rdBytes 4000 p.2 false).bind fun q => (rdNum top40 q.2 false).bind fun r => (rdNum top40 r.2 false).bind fun s => if (s.2.isEmpty && okName p.1) = true then some (p.1, (r.1 : Int), (s.1 : Int), q.1) else none
abbrev noDng : Dng := ([], 0, 0, [])

theorem openD_of {x : List UInt8} {x1 x2 : List UInt8} {n3 n4 : Nat} {l1 l2 l3 l4 : List UInt8} {b1 b2 b3 b4 : Bool} (h1 : Rb 16 x false x1 l1 b1) (h2 : Rb 4000 l1 b1 x2 l2 b2) (h3 : Rn top40 l2 b2 n3 l3 b3) (h4 : Rn top40 l3 b3 n4 l4 b4) :
    openDoneF x = (if (!b4 && l4.isEmpty && okName x1) = true then some (x1, (n3 : Int), (n4 : Int), x2) else none) ∧ (b4 = false → x1.length ≤ 16 ∧ okDone (x1, (n3 : Int), (n4 : Int), x2) = okName x1) := by
  unfold Rb at h1 h2
  unfold Rn at h3 h4
  unfold openDoneF
  cases b1 with
  | true =>
    rw [rdBytes_bad] at h2
    cases b2 with
    | false => cases h2
    | true =>
      rw [rdNum_bad] at h3
      cases b3 with
      | false => cases h3
      | true =>
        rw [rdNum_bad] at h4
        cases b4 with
        | false => cases h4
        | true => refine ⟨by rw [h1]; rfl, fun h => by cases h⟩
  | false =>
    rw [if_neg (by simp)] at h1
    rw [h1, Option.bind_some]
    cases b2 with
    | true =>
      rw [rdNum_bad] at h3
      cases b3 with
      | false => cases h3
      | true =>
        rw [rdNum_bad] at h4
        cases b4 with
        | false => cases h4
        | true => refine ⟨by simp only [h2]; rfl, fun h => by cases h⟩
    | false =>
      rw [if_neg (by simp)] at h2
      simp only [h2, Option.bind_some]
      cases b3 with
      | true =>
        rw [rdNum_bad] at h4
        cases b4 with
        | false => cases h4
        | true => refine ⟨by simp only [h3]; rfl, fun h => by cases h⟩
      | false =>
        rw [if_neg (by simp)] at h3
        simp only [h3, Option.bind_some]
        cases b4 with
        | true => refine ⟨by simp only [h4]; rfl, fun h => by cases h⟩
        | false =>
          rw [if_neg (by simp)] at h4
          simp only [h4, Option.bind_some]
          refine ⟨rfl, fun _ => ?_⟩
          have g1 := Rb.len h1
          have g2 := Rb.len h2
          have g3 := rdNum_len h3
          have g4 := rdNum_len h4
          have e : top40 = 1099511627776 := rfl
          refine ⟨g1.1, ?_⟩
          simp only [okDone, okNum, decide_eq_true (show x2.length ≤ 4000 by omega), decide_eq_true (show (0 : Int) ≤ (n3 : Int) by omega), decide_eq_true (show (0 : Int) ≤ (n4 : Int) by omega), decide_eq_true (show (n3 : Int) ≤ 1099511627776 by omega), decide_eq_true (show (n4 : Int) ≤ 1099511627776 by omega), Bool.and_true]

theorem ne_rdn : Ty.code_Reader ≠ Ty.api_Done := by decide
theorem B.rd {T : TypeId} {M M' : Store} {b : Nat} {l x : List UInt8} {bad : Bool} {v : Value} (hT : Ty.uint8 ≠ T) (hR : Rd T M b l bad) (hc : Ch [b] M M') (h : B M v x) : B M' v x := by
  obtain ⟨w, hob, _⟩ := hR
  exact Sl.keep h hT (hc.keepT hob)

theorem OpenDone_ok {M : Store} {v : Value} {l : List UInt8} (h : B M v l) (hl : l.length ≤ 2 ^ 24) : R F.reco_OpenDone #[v] M fun r M' => Up M M' ∧ ∃ w, r = .tuple #[w, .bool (openDoneF l).isSome] ∧ Dn M' w ((openDoneF l).getD noDng) := by
  refine R.cps fun Q hQ => ?_
  apply T_reco_OpenDone
  unfold S_reco_OpenDone
  rw [LT_eq]
  have o1 := Ob.new M [.string ⟨#[]⟩, .int .i64 0, .int .i64 0, .slice none 0 0] Ty.api_Done
  have u1 := Up.push M (some (.inl ([Value.string ⟨#[]⟩, .int .i64 0, .int .i64 0, .slice none 0 0], Ty.api_Done, true)))
  have n1 : (M.push (some (.inl ([Value.string ⟨#[]⟩, .int .i64 0, .int .i64 0, .slice none 0 0], Ty.api_Done, true)))).n = M.n + 1 := rfl
  generalize M.push (some (.inl ([Value.string ⟨#[]⟩, .int .i64 0, .int .i64 0, .slice none 0 0], Ty.api_Done, true))) = M1 at *
  refine (Read_ok (Sl.up h u1) hl).mono fun r M2 ⟨u2, b, hr, hbn, hR⟩ => ?_
  subst hr
  have hn2 := u2.n
  refine (rBytesA (top := 16) hR (by omega) hl).mono fun v3 M3 ⟨c3, x1, l1, b1, hx1, hl1, h3, hR3, hr1⟩ => ?_
  have hn3 := c3.n
  have hbl : b < M3.n := by obtain ⟨w, hob, _⟩ := hR3; exact hob.lt
  rw [cvBS_ok h3.by, OP_some, bl_dn1, OP_some, LT_eq]
  refine mk4 (dn_cells _ _ _ _ _ _) (dn_one _ _ _ _ _ _) fun M5 u5 o5 n5 => ?_
  have hR5 := hR3.up u5
  refine (rBytesA (top := 4000) hR5 (by omega) (by omega)).mono fun v6 M6 ⟨c6, x2, l2, b2, hx2, hl2, h6, hR6, hr2⟩ => ?_
  have hn6 := c6.n
  simp only [e_fad, Nat.zero_add]
  obtain ⟨ad, cc, rfl⟩ := h6.sl.slice
  have o6 : Ob M6 M3.n (dnc x1 0 0 none 0 0) Ty.api_Done := c6.at o5 (by simp; omega)
  rw [o6.st (o := 3) (by simp) rfl rfl, OP_some]
  have c7 := Ch.setO o6 (some (.inl (dnc x1 0 0 ad x2.length cc, Ty.api_Done, true)))
  have o7 := o6.setSt (dnc x1 0 0 ad x2.length cc)
  have hR7 := hR6.other o6 (by omega) ne_dn (dnc x1 0 0 ad x2.length cc)
  have h7 : B (M6.set M3.n (some (.inl (dnc x1 0 0 ad x2.length cc, Ty.api_Done, true)))) (.slice ad x2.length cc) x2 := B.set o6 ne_dn _ h6.by
  have es : M6.set M3.n (some (.inl ((dnc x1 0 0 none 0 0).set 3 (.slice ad x2.length cc), Ty.api_Done, true))) = M6.set M3.n (some (.inl (dnc x1 0 0 ad x2.length cc, Ty.api_Done, true))) := rfl
  rw [es]
  clear es
  generalize M6.set M3.n (some (.inl (dnc x1 0 0 ad x2.length cc, Ty.api_Done, true))) = M7 at *
  refine (rNumA (top := 1099511627776) hR7 (by omega) (by omega)).mono fun v8 M8 ⟨c8, n3, l3, b3, e8, hl3, hR8, hr3⟩ => ?_
  subst e8
  refine (rNumA (top := 1099511627776) hR8 (by omega) (by omega)).mono fun v9 M9 ⟨c9, n4, l4, b4, e9, hl4, hR9, hr4⟩ => ?_
  subst e9
  have h9 : B M9 (.slice ad x2.length cc) x2 := B.rd ne_rd hR8 c9 (B.rd ne_rd hR7 c8 h7)
  have o9 : Ob M9 M3.n (dnc x1 0 0 ad x2.length cc) Ty.api_Done := (c8.trans c9).at o7 (by simp; omega)
  rw [o9.st (o := 1) (by simp) rfl rfl, OP_some]
  have c10 := Ch.setO o9 (some (.inl (dnc x1 n3 0 ad x2.length cc, Ty.api_Done, true)))
  have o10 := o9.setSt (dnc x1 n3 0 ad x2.length cc)
  have hR10 := hR9.other o9 (by omega) ne_dn (dnc x1 n3 0 ad x2.length cc)
  have h10 : B (M9.set M3.n (some (.inl (dnc x1 n3 0 ad x2.length cc, Ty.api_Done, true)))) (.slice ad x2.length cc) x2 := B.set o9 ne_dn _ h9
  have es : M9.set M3.n (some (.inl ((dnc x1 0 0 ad x2.length cc).set 1 (.int .i64 n3), Ty.api_Done, true))) = M9.set M3.n (some (.inl (dnc x1 n3 0 ad x2.length cc, Ty.api_Done, true))) := rfl
  rw [es]
  clear es
  generalize M9.set M3.n (some (.inl (dnc x1 n3 0 ad x2.length cc, Ty.api_Done, true))) = M10 at *
  rw [o10.st (o := 2) (by simp) rfl rfl, OP_some]
  have c11 := Ch.setO o10 (some (.inl (dnc x1 n3 n4 ad x2.length cc, Ty.api_Done, true)))
  have o11 := o10.setSt (dnc x1 n3 n4 ad x2.length cc)
  have hR11 := hR10.other o10 (by omega) ne_dn (dnc x1 n3 n4 ad x2.length cc)
  have h11 : B (M10.set M3.n (some (.inl (dnc x1 n3 n4 ad x2.length cc, Ty.api_Done, true)))) (.slice ad x2.length cc) x2 := B.set o10 ne_dn _ h10
  have es : M10.set M3.n (some (.inl ((dnc x1 n3 0 ad x2.length cc).set 2 (.int .i64 n4), Ty.api_Done, true))) = M10.set M3.n (some (.inl (dnc x1 n3 n4 ad x2.length cc, Ty.api_Done, true))) := rfl
  rw [es]
  clear es
  generalize M10.set M3.n (some (.inl (dnc x1 n3 n4 ad x2.length cc, Ty.api_Done, true))) = M11 at *
  have u13 : Up M1 M3 := u2.ch c3 fun c hc => by simp at hc; omega
  have u16 : Up M1 M6 := Up.ch (u13.trans u5) c6 fun c hc => by simp at hc; omega
  have u17 : Up M1 M7 := u16.ch c7 fun c hc => by simp at hc; omega
  have u19 : Up M1 M9 := u17.ch (c8.trans c9) fun c hc => by simp at hc; omega
  have u111 : Up M1 M11 := u19.ch (c10.trans c11) fun c hc => by simp at hc; omega
  obtain ⟨hopen, hok⟩ := openD_of hr1 hr2 hr3 hr4
  have no : ∀ M12, Up M1 M12 → openDoneF l = none → OP (bldS dnz dnq []) fun t29 => OP (st 4 (.pointer (some ⟨M.n, 0, none⟩)) t29 M12) fun M13 => OP (ld 4 true (.pointer (some ⟨M.n, 0, none⟩)) M13) fun r2 => NTs [r2, .bool false] ∧ Q (.tuple #[r2, .bool false]) M13 := by
    intro M12 u12 hn
    have op := o1.up u12
    rw [bl_dn0, OP_some, st4_ok op rfl (dn_cells _ _ _ _ _ _) (dn_one _ _ _ _ _ _), OP_some, (op.setSt _).ldA (s := 4) rfl, OP_some]
    refine ⟨rfl, hQ _ _ ⟨Up.ch (u1.trans u12) (Ch.setO op _) fun c hc => by simp at hc; omega, ?_⟩⟩
    rw [hn]
    exact ⟨_, rfl, none, 0, 0, rfl, Sl.nil _ _ _⟩
  refine (End_ok hR11).mono fun v12 M12 ⟨e12, e13⟩ => ?_
  subst e12; subst e13
  rw [e_not, BR_bool]
  split
  · rename_i hb
    refine no _ u111 ?_
    rw [hopen, if_neg (fun hx => by
      rw [Bool.and_eq_true] at hx
      rw [hx.1] at hb; cases hb)]
  rename_i hb
  have hend : (!b4 && l4.isEmpty) = true := by
    cases hx : (!b4 && l4.isEmpty) with
    | true => rfl
    | false => rw [hx] at hb; exact absurd rfl hb
  have hb4 : b4 = false := by rw [Bool.and_eq_true] at hend; simpa using hend.1
  obtain ⟨hx16, hok⟩ := hok hb4
  have eld : ld 4 true (.pointer (some ⟨M3.n, 0, none⟩)) M12 = some (dnv x1 n3 n4 ad x2.length cc) := o11.ldA (s := 4) rfl
  rw [eld, OP_some]
  have hDn : Dn M12 (dnv x1 n3 n4 ad x2.length cc) (x1, (n3 : Int), (n4 : Int), x2) := ⟨ad, _, cc, rfl, h11⟩
  refine (right_ok hDn (show x1.length ≤ 2 ^ 40 by omega)).mono fun v14 M14 ⟨u14, e14⟩ => ?_
  subst e14
  rw [hok, e_not, BR_bool]
  have u114 : Up M1 M14 := u111.trans u14
  split
  · rename_i hb2
    refine no _ u114 ?_
    rw [hopen, if_neg (fun hx => by
      rw [Bool.and_eq_true] at hx
      rw [hx.2] at hb2; cases hb2)]
  · rename_i hb2
    have hnm : okName x1 = true := by
      cases hx : okName x1 with
      | true => rfl
      | false => rw [hx] at hb2; exact absurd rfl hb2
    have o14 := o11.up u14
    have eld : ld 4 true (.pointer (some ⟨M3.n, 0, none⟩)) M14 = some (dnv x1 n3 n4 ad x2.length cc) := o14.ldA (s := 4) rfl
    have op := o1.up u114
    rw [eld, OP_some, st4_ok op rfl (dn_cells _ _ _ _ _ _) (dn_one _ _ _ _ _ _), OP_some, (op.setSt _).ldA (s := 4) rfl, OP_some]
    refine ⟨rfl, hQ _ _ ⟨Up.ch (u1.trans u114) (Ch.setO op _) fun c hc => by simp at hc; omega, ?_⟩⟩
    rw [hopen, if_pos (by rw [hend, hnm]; rfl)]
    exact ⟨_, rfl, ad, _, cc, rfl, B.set op ne_dn _ (Sl.up h11 u14)⟩

theorem ROpenDone_ok {M : Store} {v : Value} {l : List UInt8} (h : B M v l) (hl : l.length ≤ 2 ^ 24) : R F.fettleref10_OpenDone #[v] M fun r M' => Up M M' ∧ ∃ w, r = .tuple #[w, .bool (openDoneF l).isSome] ∧ Dn M' w ((openDoneF l).getD noDng) := by
  refine R.cps fun Q hQ => ?_
  apply T_fettleref10_OpenDone
  unfold S_fettleref10_OpenDone
  rw [LT_eq]
  have o1 := Ob.new M [.string ⟨#[]⟩, .int .i64 0, .int .i64 0, .slice none 0 0] Ty.api_Done
  have u1 := Up.push M (some (.inl ([Value.string ⟨#[]⟩, .int .i64 0, .int .i64 0, .slice none 0 0], Ty.api_Done, true)))
  have n1 : (M.push (some (.inl ([Value.string ⟨#[]⟩, .int .i64 0, .int .i64 0, .slice none 0 0], Ty.api_Done, true)))).n = M.n + 1 := rfl
  generalize M.push (some (.inl ([Value.string ⟨#[]⟩, .int .i64 0, .int .i64 0, .slice none 0 0], Ty.api_Done, true))) = M1 at *
  have h1 : B M1 v l := Sl.up h u1
  obtain ⟨a0, c0, rfl⟩ := h1.slice
  have e1 : bldS #[.slice none 0 0, .bool false] [(0, 1), (1, 1)] [(0, .slice a0 l.length c0)] = some (.agg #[.slice a0 l.length c0, .bool false]) := by kernel_rfl
  have e2 : boxv (.agg #[.slice a0 l.length c0, .bool false]) = some [.slice a0 l.length c0, .bool false] := by kernel_rfl
  rw [e1, OP_some, e2, OP_some, LT_eq]
  have u2 := Up.push M1 (some (.inl ([.slice a0 l.length c0, .bool false], Ty.fettleref1_Reader, true)))
  have o2 := Ob.new M1 [.slice a0 l.length c0, .bool false] Ty.fettleref1_Reader
  have n2 : (M1.push (some (.inl ([.slice a0 l.length c0, .bool false], Ty.fettleref1_Reader, true)))).n = M1.n + 1 := rfl
  generalize M1.push (some (.inl ([.slice a0 l.length c0, .bool false], Ty.fettleref1_Reader, true))) = M2 at *
  have hR : Rd Ty.fettleref1_Reader M2 M1.n l false := ⟨_, o2, Sl.up h1 u2⟩
  refine (rrBytesA (top := 16) hR (by omega) hl).mono fun v3 M3 ⟨c3, x1, l1, b1, hx1, hl1, h3, hR3, hr1⟩ => ?_
  have hn3 := c3.n
  rw [cvBS_ok h3, OP_some, bl_dn1, OP_some, LT_eq]
  refine mk4 (dn_cells _ _ _ _ _ _) (dn_one _ _ _ _ _ _) fun M5 u5 o5 n5 => ?_
  have hR5 := hR3.up u5
  refine (rrBytesA (top := 4000) hR5 (by omega) (by omega)).mono fun v6 M6 ⟨c6, x2, l2, b2, hx2, hl2, h6, hR6, hr2⟩ => ?_
  have hn6 := c6.n
  simp only [e_fad, Nat.zero_add]
  obtain ⟨ad, cc, rfl⟩ := h6.slice
  have o6 : Ob M6 M3.n (dnc x1 0 0 none 0 0) Ty.api_Done := c6.at o5 (by simp; omega)
  rw [o6.st (o := 3) (by simp) rfl rfl, OP_some]
  have c7 := Ch.setO o6 (some (.inl (dnc x1 0 0 ad x2.length cc, Ty.api_Done, true)))
  have o7 := o6.setSt (dnc x1 0 0 ad x2.length cc)
  have hR7 := hR6.other o6 (by omega) ne_dn (dnc x1 0 0 ad x2.length cc)
  have h7 : B (M6.set M3.n (some (.inl (dnc x1 0 0 ad x2.length cc, Ty.api_Done, true)))) (.slice ad x2.length cc) x2 := B.set o6 ne_dn _ h6
  have es : M6.set M3.n (some (.inl ((dnc x1 0 0 none 0 0).set 3 (.slice ad x2.length cc), Ty.api_Done, true))) = M6.set M3.n (some (.inl (dnc x1 0 0 ad x2.length cc, Ty.api_Done, true))) := rfl
  rw [es]
  clear es
  generalize M6.set M3.n (some (.inl (dnc x1 0 0 ad x2.length cc, Ty.api_Done, true))) = M7 at *
  refine (rrNumA (top := 1099511627776) hR7 (by omega) (by omega)).mono fun v8 M8 ⟨c8, n3, l3, b3, e8, hl3, hR8, hr3⟩ => ?_
  subst e8
  refine (rrNumA (top := 1099511627776) hR8 (by omega) (by omega)).mono fun v9 M9 ⟨c9, n4, l4, b4, e9, hl4, hR9, hr4⟩ => ?_
  subst e9
  have h9 : B M9 (.slice ad x2.length cc) x2 := B.rd ne_rrd hR8 c9 (B.rd ne_rrd hR7 c8 h7)
  have o9 : Ob M9 M3.n (dnc x1 0 0 ad x2.length cc) Ty.api_Done := (c8.trans c9).at o7 (by simp; omega)
  rw [o9.st (o := 1) (by simp) rfl rfl, OP_some]
  have c10 := Ch.setO o9 (some (.inl (dnc x1 n3 0 ad x2.length cc, Ty.api_Done, true)))
  have o10 := o9.setSt (dnc x1 n3 0 ad x2.length cc)
  have hR10 := hR9.other o9 (by omega) ne_dn (dnc x1 n3 0 ad x2.length cc)
  have h10 : B (M9.set M3.n (some (.inl (dnc x1 n3 0 ad x2.length cc, Ty.api_Done, true)))) (.slice ad x2.length cc) x2 := B.set o9 ne_dn _ h9
  have es : M9.set M3.n (some (.inl ((dnc x1 0 0 ad x2.length cc).set 1 (.int .i64 n3), Ty.api_Done, true))) = M9.set M3.n (some (.inl (dnc x1 n3 0 ad x2.length cc, Ty.api_Done, true))) := rfl
  rw [es]
  clear es
  generalize M9.set M3.n (some (.inl (dnc x1 n3 0 ad x2.length cc, Ty.api_Done, true))) = M10 at *
  rw [o10.st (o := 2) (by simp) rfl rfl, OP_some]
  have c11 := Ch.setO o10 (some (.inl (dnc x1 n3 n4 ad x2.length cc, Ty.api_Done, true)))
  have o11 := o10.setSt (dnc x1 n3 n4 ad x2.length cc)
  have hR11 := hR10.other o10 (by omega) ne_dn (dnc x1 n3 n4 ad x2.length cc)
  have h11 : B (M10.set M3.n (some (.inl (dnc x1 n3 n4 ad x2.length cc, Ty.api_Done, true)))) (.slice ad x2.length cc) x2 := B.set o10 ne_dn _ h10
  have es : M10.set M3.n (some (.inl ((dnc x1 n3 0 ad x2.length cc).set 2 (.int .i64 n4), Ty.api_Done, true))) = M10.set M3.n (some (.inl (dnc x1 n3 n4 ad x2.length cc, Ty.api_Done, true))) := rfl
  rw [es]
  clear es
  generalize M10.set M3.n (some (.inl (dnc x1 n3 n4 ad x2.length cc, Ty.api_Done, true))) = M11 at *
  have u13 : Up M1 M3 := u2.ch c3 fun c hc => by simp at hc; omega
  have u16 : Up M1 M6 := Up.ch (u13.trans u5) c6 fun c hc => by simp at hc; omega
  have u17 : Up M1 M7 := u16.ch c7 fun c hc => by simp at hc; omega
  have u19 : Up M1 M9 := u17.ch (c8.trans c9) fun c hc => by simp at hc; omega
  have u111 : Up M1 M11 := u19.ch (c10.trans c11) fun c hc => by simp at hc; omega
  obtain ⟨hopen, hok⟩ := openD_of hr1 hr2 hr3 hr4
  have no : openDoneF l = none → OP (bldS dnz dnq []) fun t29 => OP (st 4 (.pointer (some ⟨M.n, 0, none⟩)) t29 M11) fun M13 => OP (ld 4 true (.pointer (some ⟨M.n, 0, none⟩)) M13) fun r2 => NTs [r2, .bool false] ∧ Q (.tuple #[r2, .bool false]) M13 := by
    intro hn
    have op := o1.up u111
    rw [bl_dn0, OP_some, st4_ok op rfl (dn_cells _ _ _ _ _ _) (dn_one _ _ _ _ _ _), OP_some, (op.setSt _).ldA (s := 4) rfl, OP_some]
    refine ⟨rfl, hQ _ _ ⟨Up.ch (u1.trans u111) (Ch.setO op _) fun c hc => by simp at hc; omega, ?_⟩⟩
    rw [hn]
    exact ⟨_, rfl, none, 0, 0, rfl, Sl.nil _ _ _⟩
  refine (rEnd_ok hR11).mono fun v12 M12 ⟨e12, e13⟩ => ?_
  subst e12; subst e13
  rw [e_not, BR_bool]
  split
  · rename_i hb
    refine no ?_
    rw [hopen, if_neg (fun hx => by
      rw [Bool.and_eq_true] at hx
      rw [hx.1] at hb; cases hb)]
  rename_i hb
  have hend : (!b4 && l4.isEmpty) = true := by
    cases hx : (!b4 && l4.isEmpty) with
    | true => rfl
    | false => rw [hx] at hb; exact absurd rfl hb
  have hb4 : b4 = false := by rw [Bool.and_eq_true] at hend; simpa using hend.1
  obtain ⟨hx16, hok⟩ := hok hb4
  rw [o11.ld (o := 0) rfl, OP_some]
  refine (refOk_ok (l := x1) (by omega)).mono fun v14 M14 ⟨e14, e15⟩ => ?_
  subst e14; subst e15
  rw [e_not, BR_bool]
  split
  · rename_i hb2
    refine no ?_
    rw [hopen, if_neg (fun hx => by
      rw [Bool.and_eq_true] at hx
      rw [hx.2] at hb2; cases hb2)]
  · rename_i hb2
    have hnm : okName x1 = true := by
      cases hx : okName x1 with
      | true => rfl
      | false => rw [hx] at hb2; exact absurd rfl hb2
    have eld : ld 4 true (.pointer (some ⟨M3.n, 0, none⟩)) M14 = some (dnv x1 n3 n4 ad x2.length cc) := o11.ldA (s := 4) rfl
    have op := o1.up u111
    rw [eld, OP_some, st4_ok op rfl (dn_cells _ _ _ _ _ _) (dn_one _ _ _ _ _ _), OP_some, (op.setSt _).ldA (s := 4) rfl, OP_some]
    refine ⟨rfl, hQ _ _ ⟨Up.ch (u1.trans u111) (Ch.setO op _) fun c hc => by simp at hc; omega, ?_⟩⟩
    rw [hopen, if_pos (by rw [hend, hnm]; rfl)]
    exact ⟨_, rfl, ad, _, cc, rfl, B.set op ne_dn _ h11⟩

theorem SameDone_ok {M : Store} {w w' : Value} {d d' : Dng} (h : Dn M w d) (h' : Dn M w' d') : R F.fettleref10_SameDone #[w, w'] M fun v M' => Up M M' ∧ v = .bool (decide (d = d')) := by
  obtain ⟨ad, n, c, rfl, ho⟩ := h
  obtain ⟨ad', n', c', rfl, ho'⟩ := h'
  refine R.cps fun Q hQ => ?_
  apply T_fettleref10_SameDone
  unfold S_fettleref10_SameDone
  rw [bx_dn, OP_some, LT_eq]
  have o1 := Ob.new M (dnc d.1 d.2.1 d.2.2.1 ad n c) Ty.api_Done
  have u1 := Up.push M (some (.inl (dnc d.1 d.2.1 d.2.2.1 ad n c, Ty.api_Done, true)))
  generalize M.push (some (.inl (dnc d.1 d.2.1 d.2.2.1 ad n c, Ty.api_Done, true))) = M1 at *
  rw [bx_dn, OP_some, LT_eq]
  have o2 := Ob.new M1 (dnc d'.1 d'.2.1 d'.2.2.1 ad' n' c') Ty.api_Done
  have u2 := Up.push M1 (some (.inl (dnc d'.1 d'.2.1 d'.2.2.1 ad' n' c', Ty.api_Done, true)))
  generalize M1.push (some (.inl (dnc d'.1 d'.2.1 d'.2.2.1 ad' n' c', Ty.api_Done, true))) = M2 at *
  have o1 := o1.up u2
  have u := u1.trans u2
  simp only [e_fad, Nat.zero_add]
  have no : d ≠ d' → NTs [.bool false] ∧ Q (.bool false) M2 := fun hne => ⟨rfl, hQ _ _ ⟨u, by rw [decide_eq_false hne]⟩⟩
  rw [o1.ld (o := 0) rfl, OP_some, o2.ld (o := 0) rfl, OP_some, str_eql, BR_dec]
  split
  · rename_i g1
    rw [o1.ld (o := 1) rfl, OP_some, o2.ld (o := 1) rfl, OP_some, e_eql, BR_dec]
    split
    · rename_i g2
      rw [o1.ld (o := 2) rfl, OP_some, o2.ld (o := 2) rfl, OP_some, e_eql, BR_dec]
      split
      · rename_i g3
        rw [o1.ld (o := 3) rfl, OP_some, cvBS_ok (Sl.up ho u), OP_some, o2.ld (o := 3) rfl, OP_some, cvBS_ok (Sl.up ho' u), OP_some, str_eql]
        refine ⟨rfl, hQ _ _ ⟨u, ?_⟩⟩
        congr 1
        rw [decide_eq_decide]
        obtain ⟨p1, p2, p3, p4⟩ := d
        obtain ⟨q1, q2, q3, q4⟩ := d'
        simp only at g1 g2 g3
        subst g1; subst g2; subst g3
        simp
      · rename_i g3
        exact no (fun e => g3 (by rw [e]))
    · rename_i g2
      exact no (fun e => g2 (by rw [e]))
  · rename_i g1
    exact no (fun e => g1 (by rw [e]))

end Go.G

namespace Go.G
open Go.Ab Go.Proofs Go.RowKit
set_option linter.unusedVariables false
set_option linter.unusedSimpArgs false
set_option maxRecDepth 100000

/-- A doing, and where its bytes lie. -/
abbrev DP := Dng × Option Addr × Nat × Nat
abbrev dpc (p : DP) : List Value := dnc p.1.1 p.1.2.1 p.1.2.2.1 p.2.1 p.2.2.1 p.2.2.2
abbrev dpv (p : DP) : Value := dnv p.1.1 p.1.2.1 p.1.2.2.1 p.2.1 p.2.2.1 p.2.2.2
def dcells (ps : List DP) : List Value := ps.flatMap dpc
theorem dcells_append (a b : List DP) : dcells (a ++ b) = dcells a ++ dcells b := by simp [dcells]
theorem dcells_cons (p : DP) (r : List DP) : dcells (p :: r) = dpc p ++ dcells r := rfl
theorem dcells_at : ∀ (ps : List DP) (i : Nat) (h : i < ps.length), ((dcells ps).drop (i * 4)).take 4 = dpc ps[i]
  | [], i, h => absurd h (Nat.not_lt_zero _)
  | p :: r, 0, _ => rfl
  | p :: r, i + 1, h => by
    have h' : i < r.length := by simp at h; omega
    rw [dcells_cons, show (i + 1) * 4 = 4 + i * 4 by omega, ← List.drop_drop]
    have : (dpc p ++ dcells r).drop 4 = dcells r := rfl
    rw [this, dcells_at r i h']; rfl
def DpB (M : Store) (ps : List DP) : Prop := ∀ p ∈ ps, B M (.slice p.2.1 p.2.2.1 p.2.2.2) p.1.2.2.2
/-- A slice of doings. -/
def Ds (M : Store) (v : Value) (ps : List DP) : Prop := Sl 4 Ty.api_Done M v ps.length (dcells ps) ∧ DpB M ps
def NDs (M0 M : Store) (v : Value) (ps : List DP) : Prop := Nw 4 Ty.api_Done M0 M v ps.length (dcells ps) ∧ DpB M ps
theorem NDs.ds {M0 M v ps} (h : NDs M0 M v ps) : Ds M v ps := ⟨h.1.sl, h.2⟩
theorem DpB.up {M M' ps} (h : DpB M ps) (k : Up M M') : DpB M' ps := fun p hp => Sl.up (h p hp) k
theorem NDs.up {M0 M M' v ps} (h : NDs M0 M v ps) (k : Up M M') : NDs M0 M' v ps := ⟨Nw.up h.1 k, h.2.up k⟩
theorem Ds.up {M M' v ps} (h : Ds M v ps) (k : Up M M') : Ds M' v ps := ⟨Sl.up h.1 k, h.2.up k⟩
theorem NDs.nil (M0 M : Store) : NDs M0 M (.slice none 0 0) [] := ⟨Nw.nil _ _ _ _, fun p hp => by cases hp⟩
theorem Ds.at {M v ps} (h : Ds M v ps) {i : Nat} (hi : i < ps.length) : ∃ p, ixA 4 v (.int .i64 (i : Int)) = some p ∧ ld 4 true p M = some (dpv ps[i]) ∧ Dn M (dpv ps[i]) ps[i].1 := by
  obtain ⟨p, e1, e2⟩ := h.1.at hi .i64
  refine ⟨p, e1, ?_, ?_⟩
  · rw [e2 true, dcells_at ps i hi]; rfl
  · exact ⟨_, _, _, rfl, h.2 _ (List.getElem_mem hi)⟩
theorem e_litD (p : DP) (K : List Value → Prop) : OP (bldL (.agg dnz) 4 1 [(0, dpv p)]) K = K (dpc p) := by kernel_rfl
/-- One doing more. -/
theorem NDs.app1 {M0 M : Store} {v : Value} {ps : List DP} (hu : Up M0 M) (h : NDs M0 M v ps) (p : DP) (hp : B M (.slice p.2.1 p.2.2.1 p.2.2.2) p.1.2.2.2) (hz : ps.length + 1 ≤ 2 ^ 28) {K : Value → Store → Prop}
    (hK : ∀ v' M', Up M0 M' → NDs M0 M' v' (ps ++ [p]) → Ch (kl v) (M.push (some (.inl (dpc p, Ty.api_Done, true)))) M' → Keep Ty.api_Done M M' → K v' M') :
    OP2 (appV 4 Ty.api_Done v (.slice (some ⟨M.n, 0, none⟩) 1 1) (M.push (some (.inl (dpc p, Ty.api_Done, true))))) K := by
  have u1 := Up.push M (some (.inl (dpc p, Ty.api_Done, true)))
  have l1 : Nw 4 Ty.api_Done M (M.push (some (.inl (dpc p, Ty.api_Done, true)))) (.slice (some ⟨M.n, 0, none⟩) 1 1) 1 (dpc p) := Nw.lit (n := 1) (Nat.le_refl _) rfl
  generalize M.push (some (.inl (dpc p, Ty.api_Done, true))) = M1 at *
  have h1 := h.up u1
  obtain ⟨v', M', e, hu', hN, hn, hf, hc⟩ := Nw.appV (hu.trans u1) h1.1 l1.sl hz
  rw [e, OP2_some]
  have hk : Keep Ty.api_Done M1 M' := h1.1.keeps hn hf
  refine hK v' M' hu' ⟨?_, ?_⟩ hc (u1.keep.trans hk)
  · rw [List.length_append, dcells_append]
    have : dcells [p] = dpc p := by simp [dcells]
    rw [this]; exact hN
  · intro q hq
    rcases List.mem_append.1 hq with hq | hq
    · exact Sl.keep (h1.2 q hq) ne_dn hk
    · simp only [List.mem_singleton] at hq
      subst hq
      exact Sl.keep (Sl.up hp u1) ne_dn hk

/-- A range over frames: the rounds change some boxes (S), and keep what is said of them (I), or leave (Stp). -/
theorem range_all2 {M0 M : Store} {b : Nat} {w : Value} {l : List UInt8} {rc : LRec} (hl : l.length ≤ 2 ^ 24) (hu : Up M0 M) (hob : Ob M b [w] Ty.sl_uint8) (hby : B M w l) (S : List Nat) (hS : ∀ s ∈ S, M0.n ≤ s ∧ s < M.n ∧ s ≠ b)
    (I : List (List UInt8) → Store → Prop) (Stp : Store → Prop) (hI : I [] M) (hIup : ∀ d N N', I d N → Up N N' → I d N') (hIS : ∀ d N, I d N → ∀ s ∈ S, ∃ cells T, N.get s = some (.inl (cells, T, true)) ∧ Ty.uint8 ≠ T)
    {K : Value → Store → Prop}
    (hround : ∀ d a N x u, I d N → Up M0 N → a = flen d → a + (x.length + 10) ≤ l.length → d ++ x :: scanF (l.drop (a + (x.length + 10))) = scanF l → B N u x → Rc N (M.n + 1) rc →
      RunsY Try.prog Ex (M.n + 1) #[.int .i64 (a : Int), u] N fun v N' => (v = .bool true ∧ I (d ++ [x]) N' ∧ Rc N' (M.n + 1) rc ∧ Ch ((M.n + 1) :: S) N N') ∨ (v = .bool false ∧ Stp N' ∧ Ch ((M.n + 1) :: S) N N'))
    (hend : ∀ N, Up M0 N → I (scanF l) N → Rc N (M.n + 1) rc → N.get M.n = some (.inr (.inr none)) → K (.tuple #[]) N)
    (hstop : ∀ N, Up M0 N → Stp N → N.get M.n = some (.inr (.inr none)) → K (.tuple #[]) N) :
    rfc Try.prog Ex (.func (.func F.fram_All_c1) #[] #[.pointer (some ⟨b, 0, none⟩)]) (M.n + 1) ((M.push (some (.inr (.inr none)))).push (some (.inr (.inr (some rc))))) K := by
  have u5 := Up.push M (some (.inr (.inr none)))
  have d5 : (M.push (some (.inr (.inr none)))).get M.n = some (.inr (.inr none)) := Store.get_push_eq _ _
  have n5 : (M.push (some (.inr (.inr none)))).n = M.n + 1 := rfl
  generalize M.push (some (.inr (.inr none))) = M5 at *
  have u6 := Up.push M5 (some (.inr (.inr (some rc))))
  have r6 : Rc (M5.push (some (.inr (.inr (some rc))))) (M.n + 1) rc := by rw [← n5]; exact Store.get_push_eq _ _
  have n6 : (M5.push (some (.inr (.inr (some rc))))).n = M5.n + 1 := rfl
  generalize M5.push (some (.inr (.inr (some rc)))) = M6 at *
  have u46 : Up M M6 := u5.trans u6
  have hbl := hob.lt
  show R F.fram_All_c1 #[.func (.yield (M.n + 1)) #[] #[], .pointer (some ⟨b, 0, none⟩)] M6 K
  refine Allc1_ok (w := w) hl (fun a d N => Up M0 N ∧ I d N ∧ Rc N (M.n + 1) rc ∧ Ob N b [w] Ty.sl_uint8 ∧ B N w l ∧ a = flen d ∧ d ++ scanF (l.drop a) = scanF l ∧ N.get M.n = some (.inr (.inr none))) (fun N => Up M0 N ∧ Stp N ∧ N.get M.n = some (.inr (.inr none)))
    ⟨hu.trans u46, hIup _ _ _ hI u46, r6, hob.up u46, Sl.up hby u46, rfl, rfl, u6.get d5⟩ ?_ ?_ ?_ ?_ ?_
  · rintro a d N N' ⟨h1, h2, h3, h4, h5, h6, h7, h8⟩ hN
    exact ⟨h1.trans hN, hIup _ _ _ h2 hN, h3.up hN, h4.up hN, Sl.up h5 hN, h6, h7, hN.get h8⟩
  · rintro a d N ⟨h1, h2, h3, h4, h5, h6, h7, h8⟩; exact ⟨h4, h5⟩
  · rintro a d N x u ⟨h1, h2, h3, h4, h5, h6, h7, h8⟩ ho ha hx
    have hall : d ++ x :: scanF (l.drop (a + (x.length + 10))) = scanF l := by
      rw [← h7, scanF_eq (l.drop a), ho]; simp only [List.drop_drop]
    have hns : ∀ i, i < M.n → i ∉ S → i ∉ (M.n + 1) :: S := fun i hi hn hm => by
      rcases List.mem_cons.1 hm with h | h
      · omega
      · exact hn h
    have hmS : M.n ∉ (M.n + 1) :: S := fun hm => by
      rcases List.mem_cons.1 hm with h | h
      · omega
      · have := hS _ h; omega
    have hle := hu.n
    refine (hround d a N x u h2 h1 h6 ha hall hx h3).mono fun v N' hh => ?_
    rcases hh with ⟨g1, g2, g3, g4⟩ | ⟨g1, g2, g4⟩
    · refine .inl ⟨g1, ?_⟩
      refine ⟨Up.ch h1 g4 fun c hc => ?_, g2, g3, g4.at h4 (hns b hbl fun hm => (hS b hm).2.2 rfl), ?_, ?_, ?_, g4.at h8 hmS⟩
      · rcases List.mem_cons.1 hc with h | h
        · omega
        · exact (hS c h).1
      · refine Sl.chS h5 g4 fun c hc => ?_
        rcases List.mem_cons.1 hc with h | h
        · subst h; exact .inr ⟨_, h3⟩
        · exact .inl (hIS d N h2 c h)
      · rw [flen_append, ← h6]; simp [flen]
      · rw [List.append_assoc]; exact hall
    · refine .inr ⟨g1, Up.ch h1 g4 fun c hc => ?_, g2, g4.at h8 hmS⟩
      rcases List.mem_cons.1 hc with h | h
      · omega
      · exact (hS c h).1
  · rintro a d N ⟨h1, h2, h3, h4, h5, h6, h7, h8⟩ ho
    rw [scanF_eq, ho, List.append_nil] at h7
    subst h7
    exact hend N h1 h2 h3 h8
  · rintro N ⟨h1, h2, h3⟩; exact hstop N h1 h2 h3

theorem begins_ok {M : Store} {v : Value} {l : List UInt8} (h : B M v l) (hl : l.length ≤ 2 ^ 24) {i : Nat} (hi : i < (scanF l).length) : R F.reco_begins #[v, .int .i64 (i : Int)] M fun r M' => Up M M' ∧ r = .int .i64 (flen ((scanF l).take i) : Nat) := by
  refine R.cps fun Q hQ => ?_
  apply T_reco_begins
  unfold S_reco_begins
  have hcount := scanF_count l
  have ebx : boxv (.int .i64 (i : Int)) = some [.int .i64 (i : Int)] := by kernel_rfl
  rw [ebx, OP_some, LT_eq, LT_eq]
  have o3 := Ob.new M [.int .i64 (i : Int)] Ty.int
  have u3 := Up.push M (some (.inl ([Value.int .i64 (i : Int)], Ty.int, true)))
  have n3 : (M.push (some (.inl ([Value.int .i64 (i : Int)], Ty.int, true)))).n = M.n + 1 := rfl
  generalize M.push (some (.inl ([Value.int .i64 (i : Int)], Ty.int, true))) = M1 at *
  have o4 := Ob.new M1 [.int .i64 0] Ty.int
  have u4 := Up.push M1 (some (.inl ([Value.int .i64 0], Ty.int, true)))
  have n4 : (M1.push (some (.inl ([Value.int .i64 0], Ty.int, true)))).n = M1.n + 1 := rfl
  generalize M1.push (some (.inl ([Value.int .i64 0], Ty.int, true))) = M2 at *
  have u02 := u3.trans u4
  refine (All_ok (Sl.up h u02) hl).mono fun r M3 ⟨hu3, b, w, hr, hbn, hob, hby⟩ => ?_
  subst hr
  apply T_reco_begins_1
  unfold S_reco_begins_1
  intro rc hRC
  have hst : rc.st = .ready ∧ rc.pe = 0 := by obtain ⟨f, _, _, rfl⟩ := hRC; exact ⟨rfl, rfl⟩
  have hle := hu3.n
  have hbl := hob.lt
  refine range_all2 (M0 := M) (w := w) (l := l) (rc := rc) hl (u02.trans hu3) hob hby [M.n, M1.n] ?_
    (fun d N => Ob N M.n [.int .i64 ((i : Int) - (d.length : Int))] Ty.int ∧ Ob N M1.n [.int .i64 0] Ty.int ∧ d.length ≤ i)
    (fun N => Ob N M1.n [.int .i64 (flen ((scanF l).take i) : Nat)] Ty.int ∧ ∃ rc', Rc N (M3.n + 1) rc' ∧ rc'.st = .done ∧ rc'.pe = 1)
    ⟨by simpa using (o3.up u4).up hu3, o4.up hu3, Nat.zero_le _⟩ ?_ ?_ ?_ ?_ ?_
  · intro s hs
    simp only [List.mem_cons, List.not_mem_nil, or_false] at hs
    rcases hs with rfl | rfl
    · exact ⟨Nat.le_refl _, by omega, by omega⟩
    · exact ⟨by omega, by omega, by omega⟩
  · rintro d N N' ⟨h1, h2, h3⟩ k; exact ⟨h1.up k, h2.up k, h3⟩
  · rintro d N ⟨h1, h2, h3⟩ s hs
    simp only [List.mem_cons, List.not_mem_nil, or_false] at hs
    rcases hs with rfl | rfl
    · exact ⟨_, _, h1, ne3⟩
    · exact ⟨_, _, h2, ne3⟩
  · rintro d a N x u ⟨h1, h2, h3⟩ huN ha hal hall hx hrc
    refine Y_reco_begins_1 hrc.of hRC ?_
    unfold SY_reco_begins_1
    rw [hrc.of, OP_some]
    refine ⟨hst.1, ?_⟩
    have hk1 := hrc.keepI { rc with st := .busy }
    have hc1 := hrc.ch { rc with st := .busy }
    have hrc1 := hrc.put { rc with st := .busy }
    generalize putRec N (M3.n + 1) { rc with st := .busy } = N1 at *
    apply T_reco_begins_2
    unfold S_reco_begins_2
    have h1' := h1.keepI hk1
    have h2' := h2.keepI hk1
    rw [h1'.ld (o := 0) rfl, OP_some, e_eql, BR_dec]
    split
    · rename_i hz
      rw [h2'.st (o := 0) (by simp) rfl rfl, OP_some]
      have c2 := Ch.setO h2' (some (.inl ([Value.int .i64 0].set 0 (.int .i64 (a : Int)), Ty.int, true)))
      have o2 : Ob (N1.set M1.n (some (.inl ([Value.int .i64 0].set 0 (.int .i64 (a : Int)), Ty.int, true)))) M1.n [.int .i64 (a : Int)] Ty.int := h2'.setSt _
      have hg2 : ∀ j, j ≠ M1.n → (N1.set M1.n (some (.inl ([Value.int .i64 0].set 0 (.int .i64 (a : Int)), Ty.int, true)))).get j = N1.get j := fun j hj => Store.get_set_ne _ _ (Ne.symm hj)
      generalize N1.set M1.n (some (.inl ([Value.int .i64 0].set 0 (.int .i64 (a : Int)), Ty.int, true))) = N2 at *
      have hrc2 : Rc N2 (M3.n + 1) { rc with st := .busy } := by unfold Rc; rw [hg2 _ (by omega)]; exact hrc1
      unfold YE
      rw [hrc2.of, OP_some]
      refine .inr ⟨rfl, ⟨?_, _, hrc2.put _, rfl, rfl⟩, ((hc1.mono (by simp)).trans (c2.mono (by simp))).trans ((hrc2.ch _).mono (by simp))⟩
      have hd : d.length = i := by omega
      have : (scanF l).take i = d := by rw [← hall, ← hd, List.take_left' rfl]
      rw [this, ← ha]
      exact o2.keepI (hrc2.keepI _)
    · rename_i hz
      rw [OP_some, e_sub, w64 (by omega) (by omega), h1'.st (o := 0) (by simp) rfl rfl, OP_some]
      have c2 := Ch.setO h1' (some (.inl ([Value.int .i64 ((i : Int) - (d.length : Int))].set 0 (.int .i64 ((i : Int) - (d.length : Int) - 1)), Ty.int, true)))
      have o2 : Ob (N1.set M.n (some (.inl ([Value.int .i64 ((i : Int) - (d.length : Int))].set 0 (.int .i64 ((i : Int) - (d.length : Int) - 1)), Ty.int, true)))) M.n [.int .i64 ((i : Int) - (d.length : Int) - 1)] Ty.int := h1'.setSt _
      have hg2 : ∀ j, j ≠ M.n → (N1.set M.n (some (.inl ([Value.int .i64 ((i : Int) - (d.length : Int))].set 0 (.int .i64 ((i : Int) - (d.length : Int) - 1)), Ty.int, true)))).get j = N1.get j := fun j hj => Store.get_set_ne _ _ (Ne.symm hj)
      generalize N1.set M.n (some (.inl ([Value.int .i64 ((i : Int) - (d.length : Int))].set 0 (.int .i64 ((i : Int) - (d.length : Int) - 1)), Ty.int, true))) = N2 at *
      have hrc2 : Rc N2 (M3.n + 1) { rc with st := .busy } := by unfold Rc; rw [hg2 _ (by omega)]; exact hrc1
      have h22 : Ob N2 M1.n [.int .i64 0] Ty.int := by unfold Ob; rw [hg2 _ (by omega)]; exact h2'
      unfold YE
      rw [hrc2.of, OP_some]
      have hrc3 := hrc2.put { rc with st := bif Nat.beq 0 0 then .ready else .done, pe := 0 }
      have hrce : { rc with st := bif Nat.beq 0 0 then .ready else .done, pe := 0 } = rc := by
        obtain ⟨s, p, t, ps, asg, bd⟩ := rc; simp only at hst; obtain ⟨rfl, rfl⟩ := hst; rfl
      refine .inl ⟨rfl, ⟨?_, h22.keepI (hrc2.keepI _), ?_⟩, by rw [← hrce]; exact hrc3, ((hc1.mono (by simp)).trans (c2.mono (by simp))).trans ((hrc2.ch _).mono (by simp))⟩
      · have : (i : Int) - ((d ++ [x]).length : Int) = (i : Int) - (d.length : Int) - 1 := by simp; omega
        rw [this]; exact o2.keepI (hrc2.keepI _)
      · simp; omega
  · rintro N huN ⟨h1, h2, h3⟩ hrc hdf; omega
  · rintro N huN ⟨h1, rc', hrc', hs1, hs2⟩ hdf
    rw [hrc'.of, OP_some]
    refine ⟨by rw [hs1]; decide, ?_⟩
    rw [hs2]
    have k7 := hrc'.keepI { rc' with st := .exhausted }
    have c7 := hrc'.ch { rc' with st := .exhausted }
    have d7 : (putRec N (M3.n + 1) { rc' with st := .exhausted }).get M3.n = some (.inr (.inr none)) := by
      have : (putRec N (M3.n + 1) { rc' with st := .exhausted }).get M3.n = N.get M3.n := Store.get_set_ne _ _ (by omega)
      rw [this, hdf]
    have h17 := h1.keepI k7
    rw [hs2] at d7 k7 c7 h17
    show OP (atake [{ target := .collected M3.n, args := #[] }] _) _
    generalize putRec N (M3.n + 1) { st := .exhausted, pe := 1, tmps := rc'.tmps, params := rc'.params, assign := rc'.assign, body := rc'.body } = N1 at *
    have huN1 : Up M N1 := huN.ch c7 fun c hc => by simp at hc; have := u02.n; omega
    have ht : atake [{ target := .collected M3.n, args := #[] }] N1 = some (N1.set M3.n none) := by simp [atake, d7]
    rw [ht, OP_some]
    have h18 : Ob (N1.set M3.n none) M1.n [.int .i64 (flen ((scanF l).take i) : Nat)] Ty.int := by
      unfold Ob; rw [Store.get_set_ne _ _ (by omega)]; exact h17
    rw [h18.ld (o := 0) rfl, OP_some]
    refine ⟨rfl, hQ _ _ ⟨?_, rfl⟩⟩
    exact Up.ch huN1 (Ch.set d7 _) fun c hc => by simp at hc; have := u02.n; omega

end Go.G

namespace Go.G
open Go.Ab Go.Proofs Go.RowKit
set_option linter.unusedVariables false
set_option linter.unusedSimpArgs false
set_option maxRecDepth 100000

/-- The doings that frames are, up to the first that is none; how far they reach. -/
def trF : List (List UInt8) → List Dng × Nat
  | [] => ([], 0)
  | x :: r => match openDoneF x with
    | none => ([], 0)
    | some d => (d :: (trF r).1, x.length + 10 + (trF r).2)
theorem trF_none {x : List UInt8} {r : List (List UInt8)} (h : openDoneF x = none) : trF (x :: r) = ([], 0) := by rw [trF, h]
theorem trF_some {x : List UInt8} {r : List (List UInt8)} {d : Dng} (h : openDoneF x = some d) : trF (x :: r) = (d :: (trF r).1, x.length + 10 + (trF r).2) := by rw [trF, h]
def Tr (M0 M : Store) (r : Value) (t : List Dng × Nat) : Prop := ∃ w ps, r = .tuple #[w, .int .i64 (t.2 : Nat)] ∧ NDs M0 M w ps ∧ ps.map (·.1) = t.1
theorem NDs.nts {M0 M v ps} (h : NDs M0 M v ps) {k : IntKind} {n : Int} : NTs [v, .int k n] := by
  obtain ⟨a, c, rfl⟩ := h.1.sl.slice; rfl

theorem RTrace_loop {M0 : Store} {x4 : Value} {xs : List (List UInt8)} (hxs : flen xs ≤ 2 ^ 24) {Q : Value → Store → Prop} {t : List Dng × Nat} (hQ : ∀ r M', Up M0 M' → Tr M0 M' r t → Q r M') :
    ∀ (k i : Nat) (M : Store) (v : Value) (ps : List DP), k + i = xs.length → Up M0 M → BB M x4 xs → NDs M0 M v ps → ps.length = i → t = (ps.map (·.1) ++ (trF (xs.drop i)).1, flen (xs.take i) + (trF (xs.drop i)).2) →
      P_fettleref10_Trace_1 x4 v (.int .i64 (flen (xs.take i) : Nat)) (.int .i64 (i : Int)) M Q := by
  have hxl : xs.length ≤ 2 ^ 24 := by
    have : ∀ xs : List (List UInt8), xs.length ≤ flen xs := by
      intro xs; induction xs with
      | nil => simp [flen]
      | cons x r ih => have : flen (x :: r) = x.length + 10 + flen r := by simp [flen]
                       rw [this, List.length_cons]; omega
    exact Nat.le_trans (this xs) hxs
  intro k
  induction k with
  | zero =>
    intro i M v ps hi hu hls hv hps ht
    apply T_fettleref10_Trace_1
    unfold S_fettleref10_Trace_1
    rw [hls.lenV, OP_some, e_lss, BR_dec, if_neg (by omega)]
    apply T_fettleref10_Trace_3
    refine ⟨hv.nts, hQ _ _ hu ⟨v, ps, ?_, hv, ?_⟩⟩
    · rw [ht, List.drop_eq_nil_of_le (by omega)]; simp [trF]
    · rw [ht, List.drop_eq_nil_of_le (by omega)]; simp [trF]
  | succ k ih =>
    intro i M v ps hi hu hls hv hps ht
    apply T_fettleref10_Trace_1
    unfold S_fettleref10_Trace_1
    rw [hls.lenV, OP_some, e_lss, BR_dec, if_pos (by omega)]
    apply T_fettleref10_Trace_2
    unfold S_fettleref10_Trace_2
    obtain ⟨p, q, p1, p2, p3⟩ := hls.at (i := i) (by omega) .i64
    have hsum : flen (xs.take i) + ((xs[i]'(by omega)).length + 10) + flen (xs.drop (i + 1)) = flen xs := by
      have h1 : xs = xs.take i ++ xs[i]'(by omega) :: xs.drop (i + 1) := by rw [List.getElem_cons_drop]; exact (List.take_append_drop _ _).symm
      have h2 := congrArg flen h1
      rw [flen_append, flen_cons] at h2; omega
    have htk : flen (xs.take (i + 1)) = flen (xs.take i) + ((xs[i]'(by omega)).length + 10) := by
      rw [List.take_succ_eq_append_getElem (by omega), flen_append]; simp [flen]
    have hdr : xs.drop i = xs[i]'(by omega) :: xs.drop (i + 1) := (List.getElem_cons_drop (by omega)).symm
    rw [hdr] at ht
    generalize hl : xs[i]'(by omega) = l at *
    have p3 : B M q l := p3
    rw [p1, OP_some, p2, OP_some]
    refine (ROpenDone_ok p3 (by omega)).mono fun r1 M1 ⟨hu1, w, hr1, hw⟩ => ?_
    subst hr1
    obtain ⟨ad, n, c, rfl, hwb⟩ := hw
    rw [tup2_0, OP_some, tup2_1, OP_some, LT_eq]
    refine mk4 (dn_cells _ _ _ _ _ _) (dn_one _ _ _ _ _ _) fun M3 u3 o3 n3 => ?_
    have u03 : Up M M3 := hu1.trans u3
    have hv3 := hv.up u03
    rw [e_not, BR_bool]
    cases ho : openDoneF l with
    | none =>
      rw [if_pos (by simp)]
      rw [trF_none ho] at ht
      refine ⟨hv3.nts, hQ _ _ (hu.trans u03) ⟨v, ps, ?_, hv3, ?_⟩⟩
      · rw [ht]; simp
      · rw [ht]; simp
    | some d =>
      rw [ho] at o3 hwb
      rw [if_neg (by simp)]
      rw [trF_some ho] at ht
      have hwb : B M1 (.slice ad n c) d.2.2.2 := hwb
      have eld : ld 4 true (.pointer (some ⟨M1.n, 0, none⟩)) M3 = some (dpv (d, ad, n, c)) := o3.ldA (s := 4) rfl
      rw [eld, OP_some, e_litD, LT_eq]
      refine NDs.app1 (hu.trans u03) hv3 (d, ad, n, c) (Sl.up hwb u3) (by omega) fun v5 M5 u5 h5 c5 k5 => ?_
      have hls5 : BB M5 x4 xs := (hls.up By.up' u03).keep (By.keep' ne_dn) (by decide) k5
      obtain ⟨p', q', p1', p2', p3'⟩ := hls5.at (i := i) (by omega) .i64
      rw [hl] at p3'
      have p3' : B M5 q' l := p3'
      have hpp : p' = p := by rw [p1] at p1'; injection p1' with h; exact h.symm
      subst hpp
      rw [e_add, w64 (by omega) (by omega), OP_some, p2', OP_some, p3'.lenV, OP_some, e_add, w64 (by omega) (by omega), e_add, w64 (by omega) (by omega)]
      have e1 : ((flen (xs.take i) : Nat) : Int) + 10 + (l.length : Int) = ((flen (xs.take (i + 1)) : Nat) : Int) := by omega
      rw [e1]
      refine ih (i + 1) M5 v5 (ps ++ [(d, ad, n, c)]) (by omega) u5 hls5 h5 (by simp [hps]) ?_
      rw [ht, htk]
      simp [Nat.add_assoc]

theorem RTrace_ok {M : Store} {v : Value} {l : List UInt8} (h : B M v l) (hl : l.length ≤ 2 ^ 24) : R F.fettleref10_Trace #[v] M fun r M' => Up M M' ∧ Tr M M' r (trF (scanF l)) := by
  refine R.cps fun Q hQ => ?_
  apply T_fettleref10_Trace
  unfold S_fettleref10_Trace
  refine (RScan_ok h hl).mono fun r M1 ⟨hu1, w, hr, hw⟩ => ?_
  subst hr
  rw [tup2_0, OP_some, tup2_1, OP_some]
  have hf := scanF_flen l
  refine RTrace_loop (M0 := M) (xs := scanF l) (t := trF (scanF l)) (by omega) (fun r M' hu ht => hQ _ _ ⟨hu, ht⟩) (scanF l).length 0 M1 (.slice none 0 0) [] rfl hu1 hw.ls (NDs.nil _ _) rfl ?_
  simp [flen]

theorem Trace_loop {M0 : Store} {x0 x16 : Value} {l : List UInt8} (hl : l.length ≤ 2 ^ 24) {Q : Value → Store → Prop} {t : List Dng × Nat} (hQ : ∀ r M', Up M0 M' → Tr M0 M' r t → Q r M') :
    ∀ (k i : Nat) (M : Store) (v : Value) (ps : List DP), k + i = (scanF l).length → Up M0 M → B M x0 l → BB M x16 (scanF l) → NDs M0 M v ps → ps.length = i → t = (ps.map (·.1) ++ (trF ((scanF l).drop i)).1, flen ((scanF l).take i) + (trF ((scanF l).drop i)).2) →
      P_reco_Trace_1 x0 (.int .i64 (flen (scanF l) : Nat)) v x16 (.int .i64 ((scanF l).length : Int)) (.int .i64 (i : Int)) M Q := by
  have hf := scanF_flen l
  have hcount := scanF_count l
  intro k
  induction k with
  | zero =>
    intro i M v ps hi hu hx hls hv hps ht
    apply T_reco_Trace_1
    unfold S_reco_Trace_1
    rw [e_lss, BR_dec, if_neg (by omega)]
    apply T_reco_Trace_3
    refine ⟨hv.nts, hQ _ _ hu ⟨v, ps, ?_, hv, ?_⟩⟩
    · rw [ht, List.drop_eq_nil_of_le (by omega), List.take_of_length_le (by omega)]; simp [trF]
    · rw [ht, List.drop_eq_nil_of_le (by omega)]; simp [trF]
  | succ k ih =>
    intro i M v ps hi hu hx hls hv hps ht
    apply T_reco_Trace_1
    unfold S_reco_Trace_1
    rw [e_lss, BR_dec, if_pos (by omega)]
    apply T_reco_Trace_2
    unfold S_reco_Trace_2
    obtain ⟨p, q, p1, p2, p3⟩ := hls.at (i := i) (by omega) .i64
    have hsum : flen ((scanF l).take i) + (((scanF l)[i]'(by omega)).length + 10) + flen ((scanF l).drop (i + 1)) = flen (scanF l) := by
      have h1 : scanF l = (scanF l).take i ++ (scanF l)[i]'(by omega) :: (scanF l).drop (i + 1) := by rw [List.getElem_cons_drop]; exact (List.take_append_drop _ _).symm
      have h2 := congrArg flen h1
      rw [flen_append, flen_cons] at h2; omega
    have htk : flen ((scanF l).take (i + 1)) = flen ((scanF l).take i) + (((scanF l)[i]'(by omega)).length + 10) := by
      rw [List.take_succ_eq_append_getElem (by omega), flen_append]; simp [flen]
    have hdr : (scanF l).drop i = (scanF l)[i]'(by omega) :: (scanF l).drop (i + 1) := (List.getElem_cons_drop (by omega)).symm
    rw [hdr] at ht
    generalize hx1 : (scanF l)[i]'(by omega) = x at *
    have p3 : B M q x := p3
    rw [p1, OP_some, p2, OP_some]
    refine (OpenDone_ok p3 (by omega)).mono fun r1 M1 ⟨hu1, w, hr1, hw⟩ => ?_
    subst hr1
    obtain ⟨ad, n, c, rfl, hwb⟩ := hw
    rw [tup2_0, OP_some, tup2_1, OP_some, LT_eq]
    refine mk4 (dn_cells _ _ _ _ _ _) (dn_one _ _ _ _ _ _) fun M3 u3 o3 n3 => ?_
    have u03 : Up M M3 := hu1.trans u3
    have hv3 := hv.up u03
    rw [e_not, BR_bool]
    cases ho : openDoneF x with
    | none =>
      rw [if_pos (by simp)]
      rw [trF_none ho] at ht
      refine (begins_ok (Sl.up hx u03) hl (i := i) (by omega)).mono fun r4 M4 ⟨hu4, hr4⟩ => ?_
      subst hr4
      have hv4 := hv3.up hu4
      refine ⟨hv4.nts, hQ _ _ (Ch.up (hu.trans u03) hu4) ⟨v, ps, ?_, hv4, ?_⟩⟩
      · rw [ht]; simp
      · rw [ht]; simp
    | some d =>
      rw [ho] at o3 hwb
      rw [if_neg (by simp)]
      rw [trF_some ho] at ht
      have hwb : B M1 (.slice ad n c) d.2.2.2 := hwb
      have eld : ld 4 true (.pointer (some ⟨M1.n, 0, none⟩)) M3 = some (dpv (d, ad, n, c)) := o3.ldA (s := 4) rfl
      rw [eld, OP_some, e_litD, LT_eq]
      refine NDs.app1 (hu.trans u03) hv3 (d, ad, n, c) (Sl.up hwb u3) (by omega) fun v5 M5 u5 h5 c5 k5 => ?_
      have hls5 : BB M5 x16 (scanF l) := (hls.up By.up' u03).keep (By.keep' ne_dn) (by decide) k5
      have hx5 : B M5 x0 l := Sl.keep (Sl.up hx u03) ne_dn k5
      rw [e_add, w64 (by omega) (by omega)]
      refine ih (i + 1) M5 v5 (ps ++ [(d, ad, n, c)]) (by omega) u5 hx5 hls5 h5 (by simp [hps]) ?_
      rw [ht, htk]
      simp [Nat.add_assoc]
theorem Trace_ok {M : Store} {v : Value} {l : List UInt8} (h : B M v l) (hl : l.length ≤ 2 ^ 24) : R F.reco_Trace #[v] M fun r M' => Up M M' ∧ Tr M M' r (trF (scanF l)) := by
  refine R.cps fun Q hQ => ?_
  apply T_reco_Trace
  unfold S_reco_Trace
  refine (Scan_ok h hl).mono fun r M1 ⟨hu1, w, hr, hw⟩ => ?_
  subst hr
  rw [tup2_0, OP_some, tup2_1, OP_some, hw.ls.lenV, OP_some]
  refine Trace_loop (M0 := M) (l := l) (t := trF (scanF l)) hl (fun r M' hu ht => hQ _ _ ⟨hu, ht⟩) (scanF l).length 0 M1 (.slice none 0 0) [] rfl hu1 (Sl.up h hu1) hw.ls (NDs.nil _ _) rfl ?_
  simp [flen]

theorem SameDones_loop {v w : Value} {ps qs : List DP} (hlen : ps.length = qs.length) (hle : ps.length ≤ 2 ^ 24) {Q : Value → Store → Prop} (M0 : Store) (hQ : ∀ M', Up M0 M' → Q (.bool (decide (ps.map (·.1) = qs.map (·.1)))) M') :
    ∀ (k i : Nat) (M : Store), k + i = ps.length → Up M0 M → Ds M v ps → Ds M w qs → (ps.map (·.1)).take i = (qs.map (·.1)).take i → P_fettleref10_SameDones_1 v w (.int .i64 (i : Int)) M Q := by
  intro k
  induction k with
  | zero =>
    intro i M hi hu hv hw heq
    apply T_fettleref10_SameDones_1
    unfold S_fettleref10_SameDones_1
    rw [hv.1.lenV, OP_some, e_lss, BR_dec, if_neg (by omega)]
    apply T_fettleref10_SameDones_3
    have h := hQ M hu
    rw [List.take_of_length_le (by simp; omega), List.take_of_length_le (by simp; omega)] at heq
    rw [decide_eq_true heq] at h
    exact ⟨rfl, h⟩
  | succ k ih =>
    intro i M hi hu hv hw heq
    apply T_fettleref10_SameDones_1
    unfold S_fettleref10_SameDones_1
    rw [hv.1.lenV, OP_some, e_lss, BR_dec, if_pos (by omega)]
    apply T_fettleref10_SameDones_2
    unfold S_fettleref10_SameDones_2
    obtain ⟨p, e1, e2, e3⟩ := hv.at (i := i) (by omega)
    obtain ⟨q, g1, g2, g3⟩ := hw.at (i := i) (by omega)
    rw [e1, OP_some, e2, OP_some, g1, OP_some, g2, OP_some]
    refine (SameDone_ok e3 g3).mono fun r M1 ⟨hu1, hr⟩ => ?_
    subst hr
    refine ⟨hu1.tdx _ _ _, ?_⟩
    have uM1 : Up M0 M1 := hu.trans hu1
    have hi1 : i < (ps.map (·.1)).length := by simp; omega
    have hi2 : i < (qs.map (·.1)).length := by simp; omega
    have hm1 : (ps.map (·.1))[i] = (ps[i]'(by omega)).1 := by simp
    have hm2 : (qs.map (·.1))[i] = (qs[i]'(by omega)).1 := by simp
    rw [e_not, BR_bool]
    split
    · rename_i hb
      have hne : (ps[i]'(by omega)).1 ≠ (qs[i]'(by omega)).1 := by simpa using hb
      have h := hQ M1 uM1
      rw [decide_eq_false (fun e => hne (by
        rw [← hm1, ← hm2]; simp only [e]))] at h
      exact ⟨rfl, h⟩
    · rename_i hb
      have he : (ps[i]'(by omega)).1 = (qs[i]'(by omega)).1 := by simpa using hb
      rw [e_add, w64 (by omega) (by omega)]
      refine ih (i + 1) M1 (by omega) uM1 (hv.up hu1) (hw.up hu1) ?_
      rw [List.take_succ_eq_append_getElem hi1, List.take_succ_eq_append_getElem hi2, heq, hm1, hm2, he]
theorem SameDones_ok {M : Store} {v w : Value} {ps qs : List DP} (hv : Ds M v ps) (hw : Ds M w qs) (hle : ps.length ≤ 2 ^ 24) : R F.fettleref10_SameDones #[v, w] M fun r M' => Up M M' ∧ r = .bool (decide (ps.map (·.1) = qs.map (·.1))) := by
  refine R.cps fun Q hQ => ?_
  apply T_fettleref10_SameDones
  unfold S_fettleref10_SameDones
  rw [hv.1.lenV, OP_some, hw.1.lenV, OP_some, e_neq, BR_dec]
  split
  · rename_i hb
    refine ⟨rfl, hQ _ _ ⟨Ch.refl _ _, ?_⟩⟩
    rw [decide_eq_false]
    intro e
    have := congrArg List.length e
    simp at this; omega
  · rename_i hb
    exact SameDones_loop (by omega) hle M (fun M' hu => hQ _ _ ⟨hu, rfl⟩) ps.length 0 M rfl (Ch.refl _ _) hv hw rfl

end Go.G

namespace Go.G
open Go.Ab Go.Proofs Go.RowKit
set_option linter.unusedVariables false
set_option linter.unusedSimpArgs false
set_option maxRecDepth 100000

theorem rdNum_be {n : Nat} (hn : n ≤ top40) (r : List UInt8) : rdNum top40 (be 6 n ++ r) false = some (n, r) := by
  have e : top40 = 1099511627776 := rfl
  have h1 : (be 6 n ++ r).take 6 = be 6 n := List.take_left' (be_length _ _)
  have h2 : (be 6 n ++ r).drop 6 = r := List.drop_left' (be_length _ _)
  have h3 : ¬ (be 6 n ++ r).length < 6 := by simp [be_length]
  have h4 := numOf_be 6 n (by omega)
  simp only [rdNum, h1, h2, h4, h3, or_false, if_false, Bool.false_eq_true]
  rw [if_neg (by omega)]
theorem rdBytes_be {top : Nat} {z : List UInt8} (ht : z.length ≤ top) (hz : z.length < 256 ^ 6) (r : List UInt8) : rdBytes top (be 6 z.length ++ z ++ r) false = some (z, r) := by
  rw [rdBytes_iff]
  have e1 : (be 6 z.length ++ z ++ r).take 6 = be 6 z.length := by rw [List.append_assoc, List.take_left' (be_length _ _)]
  have e2 : (be 6 z.length ++ z ++ r).drop 6 = z ++ r := by rw [List.append_assoc, List.drop_left' (be_length _ _)]
  rw [e1, numOf_be _ _ hz, ← List.drop_drop, e2]
  refine ⟨by simp [be_length], ht, by simp [be_length], (List.take_left' rfl).symm, (List.drop_left' rfl).symm⟩
theorem openLock_lock (a b c d : Int) : openLockF (lockF a b c d) = some (held a, held b, held c, held d) := by
  rw [openLockF, lockF, whole_frm _ (by simp [be_length]), Option.bind_some]
  have e : top40 = 1099511627776 := rfl
  have h1 := held_le a
  have h2 := held_le b
  have h3 := held_le c
  have h4 := held_le d
  have e1 : be 6 (held a) ++ be 6 (held b) ++ be 6 (held c) ++ be 6 (held d) = be 6 (held a) ++ (be 6 (held b) ++ (be 6 (held c) ++ (be 6 (held d) ++ []))) := by simp
  rw [open4, e1, rdNum_be (by omega), Option.bind_some]
  simp only
  rw [rdNum_be (by omega), Option.bind_some]
  simp only
  rw [rdNum_be (by omega), Option.bind_some]
  simp only
  rw [rdNum_be (by omega), Option.bind_some]
  rfl
theorem okDone_iff {d : Dng} (h : okDone d = true) : okName d.1 = true ∧ d.2.2.2.length ≤ 4000 ∧ (0 ≤ d.2.1 ∧ d.2.1 ≤ 1099511627776) ∧ 0 ≤ d.2.2.1 ∧ d.2.2.1 ≤ 1099511627776 := by
  simp only [okDone, okNum, Bool.and_eq_true, decide_eq_true_eq] at h
  exact ⟨h.1.1.1, h.1.1.2, h.1.2, h.2⟩
theorem okName_len {l : List UInt8} (h : okName l = true) : 1 ≤ l.length ∧ l.length ≤ 16 := by
  simp only [okName, Bool.and_eq_true, decide_eq_true_eq] at h; exact ⟨h.1.2, h.2⟩
theorem openDone_done {d : Dng} (h : okDone d = true) : openDoneF (doneF d) = some d := by
  obtain ⟨h1, h2, h3, h4⟩ := okDone_iff h
  have hn := okName_len h1
  have e : top40 = 1099511627776 := rfl
  have g1 := held_le d.2.1
  have g2 := held_le d.2.2.1
  rw [doneF, if_pos h, openDoneF]
  have e1 : be 6 d.1.length ++ d.1 ++ be 6 d.2.2.2.length ++ d.2.2.2 ++ be 6 (held d.2.1) ++ be 6 (held d.2.2.1) = be 6 d.1.length ++ d.1 ++ (be 6 d.2.2.2.length ++ d.2.2.2 ++ (be 6 (held d.2.1) ++ (be 6 (held d.2.2.1) ++ []))) := by simp
  rw [e1, rdBytes_be hn.2 (by omega), Option.bind_some]
  simp only
  rw [rdBytes_be h2 (by omega), Option.bind_some]
  simp only
  rw [rdNum_be (by omega), Option.bind_some]
  simp only
  rw [rdNum_be (by omega), Option.bind_some]
  simp only [List.isEmpty_nil, h1, Bool.and_self, if_true]
  have e2 : ((held d.2.1 : Nat) : Int) = d.2.1 := by unfold held; omega
  have e3 : ((held d.2.2.1 : Nat) : Int) = d.2.2.1 := by unfold held; omega
  rw [e2, e3]

theorem abin_lk0 (a b c d a' b' c' d' : Int) : abin Try.prog false .eql Ty.api_Lock (lkv a b c d) (lkv a' b' c' d') =
    (if a = a' then (if b = b' then (if c = c' then (if d = d' then some true else some false) else some false) else some false) else some false : Option Bool).bind (fun b => some (.bool b)) := by kernel_rfl
theorem abin_lk1 (a b c d a' b' c' d' : Int) : abin Try.prog false .neq Ty.api_Lock (lkv a b c d) (lkv a' b' c' d') =
    (if a = a' then (if b = b' then (if c = c' then (if d = d' then some true else some false) else some false) else some false) else some false : Option Bool).bind (fun b => some (.bool (!b))) := by kernel_rfl
theorem abin_lk_eq (a b c d a' b' c' d' : Int) : abin Try.prog false .eql Ty.api_Lock (lkv a b c d) (lkv a' b' c' d') = some (.bool (decide (a = a' ∧ b = b' ∧ c = c' ∧ d = d'))) := by
  rw [abin_lk0]
  by_cases h1 : a = a' <;> by_cases h2 : b = b' <;> by_cases h3 : c = c' <;> by_cases h4 : d = d' <;> simp [h1, h2, h3, h4]
theorem abin_lk_ne (a b c d a' b' c' d' : Int) : abin Try.prog false .neq Ty.api_Lock (lkv a b c d) (lkv a' b' c' d') = some (.bool (!decide (a = a' ∧ b = b' ∧ c = c' ∧ d = d'))) := by
  rw [abin_lk1]
  by_cases h1 : a = a' <;> by_cases h2 : b = b' <;> by_cases h3 : c = c' <;> by_cases h4 : d = d' <;> simp [h1, h2, h3, h4]

end Go.G

namespace Go.G
open Go.Ab Go.Proofs Go.RowKit
set_option linter.unusedVariables false
set_option linter.unusedSimpArgs false
set_option maxRecDepth 100000

theorem tdx_app {bs Ns : List Nat} {i : Nat} {v : Value} {M M' : Store} (h : Ch (kl v) M M') {j : Nat} (hj : j < i) (hb : (bs.getD i 0).testBit j = true) (hk : ∀ b, kil v = some b → (M.get b).isSome = true ∧ Ns.getD j 0 ≤ b ∧ b < Ns.getD (j + 1) 0) : TDx bs Ns i M M' := by
  refine ⟨h.n, fun b hbt => ?_⟩
  rcases h.tdiff b hbt with h1 | h1
  · exact .inl h1
  · have h2 : kil v = some b := by
      cases hk' : kil v with
      | none => simp [kl, hk'] at h1
      | some c => simp [kl, hk'] at h1; rw [h1]
    obtain ⟨h3, h4, h5⟩ := hk b h2
    refine .inr ⟨h3, ?_⟩
    rw [accB, Bool.or_eq_true]
    right
    rw [List.any_eq_true]
    exact ⟨j, List.mem_range.2 hj, by rw [hb, decide_eq_true h4, decide_eq_true h5]; rfl⟩

abbrev d12 : Dng := ([97, 46, 111], 1, 2, [112])
theorem d12_ok : okDone d12 = true := by kernel_rfl
theorem d12_len : (doneF d12).length = 28 := by rw [doneF, if_pos d12_ok]; simp [be_length]
theorem done0 : doneF ([], 0, 0, []) = [] := by kernel_rfl
theorem tr12 : trF (scanF (frm (doneF d12) ++ frm (doneF d12) ++ [7, 7])) = ([d12, d12], 76) := by
  have hl := d12_len
  have ho := openDone_done d12_ok
  rw [List.append_assoc, scanF_frm _ _ (by omega), scanF_frm _ _ (by omega), scanF_short _ (by simp), trF_some ho, trF_some ho]
  simp [trF, hl]

theorem awake12_ok (M : Store) : R F.fettlelaw12_awake #[] M fun v M' => Up M M' ∧ v = .bool true := by
  refine R.cps fun Q hQ => ?_
  apply T_fettlelaw12_awake
  unfold S_fettlelaw12_awake
  rw [bl_lk4, OP_some, LT_eq]
  refine mk4 (lk_cells _ _ _ _) (lk_one _ _ _ _) fun M2 u2 o1 n2 => ?_
  have el : ld 4 true (.pointer (some ⟨M.n, 0, none⟩)) M2 = some (lkv 1 2 3 400) := o1.ldA (s := 4) rfl
  rw [el, OP_some]
  refine (Lock_ok 1 2 3 400).mono fun v3 M3 ⟨u3, h3⟩ => ?_
  refine (OpenLock_ok h3.by (by rw [lockF_length]; simp)).mono fun r4 M4 ⟨u4, hr4⟩ => ?_
  have eh : openLockF (lockF 1 2 3 400) = some (1, 2, 3, 400) := by rw [openLock_lock]; rfl
  rw [eh] at hr4
  have hr4 : r4 = .tuple #[lkv 1 2 3 400, .bool true] := hr4
  subst hr4
  rw [tup2_0, OP_some, tup2_1, OP_some, LT_eq]
  refine mk4 (lk_cells _ _ _ _) (lk_one _ _ _ _) fun M6 u6 o2 n6 => ?_
  have e1 : (.int .u8 112 : Value) = bv 112 := rfl
  rw [e_lit1, LT_eq, e1]
  have hN7 : N M6 (M6.push (some (.inl ([bv 112], Ty.uint8, true)))) (.slice (some ⟨M6.n, 0, none⟩) 1 1) [112] := Nw.lit (n := 1) (Nat.le_refl _) rfl
  refine conv_ok (Up.push M6 _) hN7 (by simp) fun M8 u8 h8 _ => ?_
  have ebd : bldS #[.string ⟨#[]⟩, .int .i64 0, .int .i64 0, .slice none 0 0] [(0, 1), (1, 1), (2, 1), (3, 1)] [(0, .string ⟨#[97, 46, 111]⟩), (1, .int .i64 1), (2, .int .i64 2), (3, .slice (some ⟨M6.n, 0, none⟩) 1 1)] = some (dnv d12.1 d12.2.1 d12.2.2.1 (some ⟨M6.n, 0, none⟩) 1 1) := by kernel_rfl
  rw [ebd, OP_some, LT_eq]
  refine mk4 (dn_cells _ _ _ _ _ _) (dn_one _ _ _ _ _ _) fun M10 u10 o4 n10 => ?_
  have ed : ∀ X : Store, Up M10 X → ld 4 true (.pointer (some ⟨M8.n, 0, none⟩)) X = some (dnv d12.1 d12.2.1 d12.2.2.1 (some ⟨M6.n, 0, none⟩) 1 1) := fun X hX => (o4.up hX).ldA (s := 4) rfl
  have hDn : ∀ X : Store, Up M10 X → Dn X (dnv d12.1 d12.2.1 d12.2.2.1 (some ⟨M6.n, 0, none⟩) 1 1) d12 := fun X hX => ⟨_, _, _, rfl, Sl.up (Sl.up h8.by u10) hX⟩
  have r0 : Up M10 M10 := Ch.refl _ _
  rw [ed _ r0, OP_some]
  refine (Done_ok (hDn _ r0) (by simp) (by simp)).mono fun v11 M11 ⟨u11, h11⟩ => ?_
  have hl := d12_len
  refine (OpenDone_ok h11.by (by omega)).mono fun r12 M12 ⟨u12, w12, hr12, hw12⟩ => ?_
  rw [openDone_done d12_ok] at hr12 hw12
  subst hr12
  obtain ⟨a5, n5, c5, rfl, hb5⟩ := hw12
  rw [tup2_0, OP_some, tup2_1, OP_some, LT_eq]
  refine mk4 (dn_cells _ _ _ _ _ _) (dn_one _ _ _ _ _ _) fun M14 u14 o5 n14 => ?_
  have q14 : Up M10 M14 := (u11.trans u12).trans u14
  rw [ed _ q14, OP_some]
  refine (Done_ok (hDn _ q14) (by simp) (by simp)).mono fun v15 M15 ⟨u15, h15⟩ => ?_
  refine ⟨u15.tdj _ _, ?_⟩
  refine (RPut_ok (l := []) (Sl.nil _ _ _) h15.by (by simp) (by omega)).mono fun v16 M16 ⟨u16, h16⟩ => ?_
  rw [List.nil_append] at h16
  refine ⟨u16.tdj _ _, ?_⟩
  have q16 : Up M10 M16 := (q14.trans u15).trans u16
  rw [ed _ q16, OP_some]
  refine (Done_ok (hDn _ q16) (by simp) (by simp)).mono fun v17 M17 ⟨u17, h17⟩ => ?_
  refine ⟨u17.tdx _ _ _, ?_⟩
  have hfl := frm_length (doneF d12)
  refine (RPut_ok (Sl.up h16.by u17) h17.by (by omega) (by omega)).mono fun v18 M18 ⟨u18, h18⟩ => ?_
  refine ⟨u18.tdx _ _ _, ?_⟩
  have e7 : ∀ K : List Value → Prop, OP (bldL (.int .u8 0) 1 2 [(0, (.int .u8 7)), (1, (.int .u8 7))]) K = K [bv 7, bv 7] := fun K => by kernel_rfl
  rw [e7, LT_eq]
  have u19 := Up.push M18 (some (.inl ([bv 7, bv 7], Ty.uint8, true)))
  have h19 : N M18 (M18.push (some (.inl ([bv 7, bv 7], Ty.uint8, true)))) (.slice (some ⟨M18.n, 0, none⟩) 2 2) [7, 7] := Nw.lit (n := 2) (Nat.le_refl _) rfl
  have n19 : (M18.push (some (.inl ([bv 7, bv 7], Ty.uint8, true)))).n = M18.n + 1 := rfl
  generalize M18.push (some (.inl ([bv 7, bv 7], Ty.uint8, true))) = M19 at *
  obtain ⟨v20, M20, e20, u20, h20, _, _, c20⟩ := NB.app (u18.trans u19) (Nw.up h18 u19) h19.by (by simp; omega)
  rw [e20, OP2_some]
  refine ⟨tdx_app c20 (j := 5) (by omega) (by decide) fun b hb => ?_, ?_⟩
  · obtain ⟨g1, g2, g3⟩ := Nw.kil_in h18 hb
    exact ⟨isSome_up u19 g3, g1, g2⟩
  refine (Trace_ok h20.by (by simp; omega)).mono fun r21 M21 ⟨u21, w21, ps, hr21, hw21, hps⟩ => ?_
  subst hr21
  rw [tr12] at hps ⊢
  have hps2 : ps.length = 2 := by
    have := congrArg List.length hps
    simpa using this
  have q20 : Up M10 M20 := (q16.trans u17).trans u20
  have q21 : Up M10 M21 := q20.trans u21
  have w621 : Up M6 M21 := (u8.trans u10).trans q21
  have w221 : Up M2 M21 := ((u3.trans u4).trans u6).trans w621
  have w1421 : Up M14 M21 := (((u15.trans u16).trans u17).trans u20).trans u21
  have el2 : ld 4 true (.pointer (some ⟨M4.n, 0, none⟩)) M21 = some (lkv 1 2 3 400) := (o2.up w621).ldA (s := 4) rfl
  have el1 : ld 4 true (.pointer (some ⟨M.n, 0, none⟩)) M21 = some (lkv 1 2 3 400) := (o1.up w221).ldA (s := 4) rfl
  have el5 : ld 4 true (.pointer (some ⟨M12.n, 0, none⟩)) M21 = some (dnv d12.1 d12.2.1 d12.2.2.1 a5 n5 c5) := (o5.up w1421).ldA (s := 4) rfl
  rw [tup2_0, OP_some, tup2_1, OP_some, BR_bool, if_pos rfl, el2, OP_some, el1, OP_some, abin_lk_eq, OP_some, BR_dec, if_pos ⟨rfl, rfl, rfl, rfl⟩, BR_bool, if_pos (by simp), ed _ q21, OP_some, el5, OP_some]
  have hD5 : Dn M21 (dnv d12.1 d12.2.1 d12.2.2.1 a5 n5 c5) d12 := ⟨_, _, _, rfl, Sl.up (Sl.up hb5 u14) w1421⟩
  refine (SameDone_ok (hDn _ q21) hD5).mono fun r22 M22 ⟨u22, hr22⟩ => ?_
  subst hr22
  have hl20 : v20 = v20 := rfl
  rw [BR_dec, if_pos rfl, hw21.1.sl.lenV, OP_some, hps2, e_eql, BR_dec, if_pos (by decide), h20.sl.lenV, OP_some, e_sub, w64 (by simp; omega) (by simp; omega), e_eql, BR_dec, if_pos (by simp; omega), bl_dn0, OP_some]
  have hD0 : Dn M22 (dnv [] 0 0 none 0 0) ([], 0, 0, []) := ⟨_, _, _, rfl, Sl.nil _ _ _⟩
  refine (Done_ok hD0 (by simp) (by simp)).mono fun v23 M23 ⟨u23, h23⟩ => ?_
  rw [done0] at h23
  rw [h23.sl.lenV, OP_some]
  refine ⟨rfl, hQ _ _ ⟨?_, rfl⟩⟩
  exact ((((u2.trans w221).trans u22)).trans u23)

end Go.G

namespace Go.G
open Go.Ab Go.Proofs Go.RowKit
set_option linter.unusedVariables false
set_option linter.unusedSimpArgs false
set_option maxRecDepth 100000

theorem whole_two (x : List UInt8) (h : x.length ≤ 10000) : wholeF (frm x ++ frm x) = none := by
  have h1 := scanF_frm x (frm x) h
  have h2 := scanF_frm x [] h
  rw [List.append_nil, scanF_short [] (by simp)] at h2
  rw [h2] at h1
  unfold wholeF
  rw [h1]
theorem openLock_none {l : List UInt8} (h : wholeF l = none) : openLockF l = none := by rw [openLockF, h]; rfl

theorem RecoTurned_ok {M : Store} {n0 n1 n2 n3 : Int} (h0 : -9223372036854775808 ≤ n2 ∧ n2 ≤ 9223372036854775807) (h1 : -9223372036854775808 ≤ n3 ∧ n3 ≤ 9223372036854775807) :
    R F.fettlelaw12_RecoTurned #[.int .i64 n0, .int .i64 n1, .int .i64 n2, .int .i64 n3] M fun v M' => v = .bool true := by
  refine R.cps fun Q hQ => ?_
  apply T_fettlelaw12_RecoTurned
  unfold S_fettlelaw12_RecoTurned
  obtain ⟨a, ha, ea⟩ := e_andM n0 7 (by omega)
  have ea : binI .and (.int .i64 n0) (.int .i64 7) = some (.int .i64 (a : Int)) := ea
  have es3 : ∀ K : Value → Prop, OP (binI .shr (.int .i64 n0) (.int .u64 3)) K = K (.int .i64 (n0.fdiv (2 ^ (min (Int.toNat 3) (IntKind.bits .i64))))) := fun K => e_shr (by omega) K
  have es11 : ∀ K : Value → Prop, OP (binI .shr (.int .i64 n0) (.int .u64 11)) K = K (.int .i64 (n0.fdiv (2 ^ (min (Int.toNat 11) (IntKind.bits .i64))))) := fun K => e_shr (by omega) K
  rw [ea, OP_some, es3]
  generalize n0.fdiv (2 ^ (min (Int.toNat 3) (IntKind.bits .i64))) = m1
  obtain ⟨b, hb, eb⟩ := e_andM m1 255 (by omega)
  have eb : binI .and (.int .i64 m1) (.int .i64 255) = some (.int .i64 (b : Int)) := eb
  rw [eb, OP_some, es11]
  generalize n0.fdiv (2 ^ (min (Int.toNat 11) (IntKind.bits .i64))) = m2
  obtain ⟨c, hc, ec⟩ := e_andM m2 65535 (by omega)
  have ec : binI .and (.int .i64 m2) (.int .i64 65535) = some (.int .i64 (c : Int)) := ec
  rw [ec, OP_some]
  obtain ⟨d, hd, ed⟩ := e_andM n1 4294967295 (by omega)
  have ed : binI .and (.int .i64 n1) (.int .i64 4294967295) = some (.int .i64 (d : Int)) := ed
  rw [ed, OP_some, bl_lk4, OP_some, LT_eq]
  refine mk4 (lk_cells _ _ _ _) (lk_one _ _ _ _) fun M2 u2 o9 n2' => ?_
  have el9 : ∀ X : Store, Up M2 X → ld 4 true (.pointer (some ⟨M.n, 0, none⟩)) X = some (lkv a b c d) := fun X hX => (o9.up hX).ldA (s := 4) rfl
  rw [el9 _ (Ch.refl _ _), OP_some]
  refine (Lock_ok a b c d).mono fun v3 M3 ⟨u3, h3⟩ => ?_
  have hll := lockF_length a b c d
  rw [h3.sl.lenV, OP_some, e_lss, BR_dec, if_neg (by omega)]
  refine (OpenLock_ok h3.by (by omega)).mono fun r4 M4 ⟨u4, hr4⟩ => ?_
  have eo : openLockF (lockF a b c d) = some (a, b, c, d) := by
    rw [openLock_lock, held_of (by omega), held_of (by omega), held_of (by omega), held_of (by omega)]
  rw [eo] at hr4
  have hr4 : r4 = .tuple #[lkv a b c d, .bool true] := hr4
  subst hr4
  rw [tup2_0, OP_some, tup2_1, OP_some, LT_eq]
  refine mk4 (lk_cells _ _ _ _) (lk_one _ _ _ _) fun M6 u6 o11 n6 => ?_
  have u36 : Up M3 M6 := u4.trans u6
  have hlk : lockF a b c d = frm (be 6 (held a) ++ be 6 (held b) ++ be 6 (held c) ++ be 6 (held d)) := rfl
  have hP : (be 6 (held a) ++ be 6 (held b) ++ be 6 (held c) ++ be 6 (held d)).length ≤ 10000 := by simp [be_length]
  generalize be 6 (held (a : Int)) ++ be 6 (held (b : Int)) ++ be 6 (held (c : Int)) ++ be 6 (held (d : Int)) = P at *
  generalize lockF a b c d = L at *
  subst hlk
  have h36 : B M6 v3 (frm P) := Sl.up h3.by u36
  rw [e_lit0, LT_eq]
  refine copy0 h36 (by omega) fun v8 M8 hu8 h8 => ?_
  obtain ⟨k, hk, ek⟩ := e_and16 n2 h0.1 h0.2
  rw [ek, OP_some, OP_some, e_mul, w64 (by omega) (by omega)]
  have e8 : (8 : Int) * ((frm P).length : Int) = ((8 * (frm P).length : Nat) : Int) := by omega
  rw [e8, e_rem _ _ (by omega), OP_some]
  have hlt : k % (8 * (frm P).length) < 8 * (frm P).length := Nat.mod_lt _ (by omega)
  generalize k % (8 * (frm P).length) = p at *
  have eq8 : binI .quo (.int .i64 (p : Int)) (.int .i64 8) = some (.int .i64 ((p / 8 : Nat) : Int)) := e_quo p 8 (by omega) (by omega)
  rw [eq8, OP_some, OP_some]
  have hp8 : p / 8 < (frm P).length := by omega
  generalize p / 8 = i at *
  obtain ⟨q, eq, eld⟩ := By.at h8.by (i := i) hp8 .i64
  obtain ⟨j, hj, ej⟩ := e_and7 p (by omega)
  rw [eq, OP_some, eld, OP_some, ej, OP_some, e_cvI, wrap_u64 _ (by omega)]
  obtain ⟨bb, hbb, ebb⟩ := shl_bit hj
  rw [ebb, OP_some, e_xor8, OP_some]
  obtain ⟨q', M9, e9, e9', hu9, h9, _⟩ := N.put hu8 h8 hp8 .i64 ((frm P)[i] ^^^ bb)
  have hqq : q' = q := by rw [eq] at e9; injection e9 with e9; exact e9.symm
  subst hqq
  rw [OP_some, e9', OP_some]
  refine (OpenLock_ok h9.by (by simp; omega)).mono fun r10 M10 ⟨hu10, hr10⟩ => ?_
  rw [openLock_none (whole_set hp8 (xor8_ne hbb))] at hr10
  subst hr10
  rw [tup2_0, OP_some, tup2_1, OP_some, LT_eq]
  refine mk4 (lk_cells _ _ _ _) (lk_one _ _ _ _) fun M12 u12 o15 n12 => ?_
  have u612 : Up M6 M12 := (Ch.up hu9 hu10).trans u12
  obtain ⟨k2, hk2, ek2⟩ := e_and16 n3 h1.1 h1.2
  rw [ek2, OP_some, OP_some, e_rem _ _ (by omega), OP_some]
  have hlt2 : k2 % (frm P).length < (frm P).length := Nat.mod_lt _ (by omega)
  generalize k2 % (frm P).length = p2 at *
  have h312 : B M12 v3 (frm P) := Sl.up h36 u612
  obtain ⟨w9, e9, hw9⟩ := By.cut h312 (lo := none) (hi := some (.int .i64 (p2 : Int))) (a := 0) (r := p2) (abound_nat (by omega)) rfl (by omega) (by omega)
  rw [List.drop_zero] at hw9
  rw [e9, OP_some]
  refine (OpenLock_ok hw9 (by simp; omega)).mono fun r13 M13 ⟨hu13, hr13⟩ => ?_
  rw [openLock_none (whole_take _ hP p2 hlt2)] at hr13
  subst hr13
  rw [tup2_0, OP_some, tup2_1, OP_some, LT_eq]
  refine mk4 (lk_cells _ _ _ _) (lk_one _ _ _ _) fun M15 u15 o17 n15 => ?_
  have h315 : B M15 v3 (frm P) := Sl.up h312 (hu13.trans u15)
  rw [e_lit0, LT_eq]
  refine copy0 h315 (by omega) fun v17 M17 hu17 h17 => ?_
  have e0 : (.int .u8 0 : Value) = bv 0 := rfl
  rw [e_lit1, LT_eq, e0]
  have h18 : N M15 (M17.push (some (.inl ([bv 0], Ty.uint8, true)))) (.slice (some ⟨M17.n, 0, none⟩) 1 1) [0] := Nw.lit (n := 1) hu17.le rfl
  obtain ⟨v19, M19, e19, hu19, h19, _⟩ := NB.app (hu17.push' _) (Nw.up h17 (Up.push M17 _)) h18.by (by simp; omega)
  rw [e19, OP2_some]
  refine (OpenLock_ok h19.by (by simp; omega)).mono fun r20 M20 ⟨hu20, hr20⟩ => ?_
  rw [openLock_none (whole_more _ hP 0)] at hr20
  subst hr20
  rw [tup2_0, OP_some, tup2_1, OP_some, LT_eq]
  refine mk4 (lk_cells _ _ _ _) (lk_one _ _ _ _) fun M22 u22 o19 n22 => ?_
  have u1522 : Up M15 M22 := (Ch.up hu19 hu20).trans u22
  have h322 : B M22 v3 (frm P) := Sl.up h315 u1522
  rw [e_lit0, LT_eq]
  refine copy0 h322 (by omega) fun v24 M24 hu24 h24 => ?_
  obtain ⟨v25, M25, e25, hu25, h25, _⟩ := NB.app hu24 h24 (Sl.up h322 hu24) (by omega)
  rw [e25, OP2_some]
  refine (OpenLock_ok h25.by (by simp; omega)).mono fun r26 M26 ⟨hu26, hr26⟩ => ?_
  rw [openLock_none (whole_two _ hP)] at hr26
  subst hr26
  rw [tup2_0, OP_some, tup2_1, OP_some, LT_eq]
  refine mk4 (lk_cells _ _ _ _) (lk_one _ _ _ _) fun M28 u28 o21 n28 => ?_
  have u628 : Up M6 M28 := ((((u612.trans (hu13.trans u15)).trans u1522).trans hu25).trans hu26).trans u28
  have u228 : Up M2 M28 := (u3.trans u36).trans u628
  have el11 : ld 4 true (.pointer (some ⟨M4.n, 0, none⟩)) M28 = some (lkv a b c d) := (o11.up u628).ldA (s := 4) rfl
  rw [BR_bool, if_pos rfl, el11, OP_some, el9 _ u228, OP_some, abin_lk_eq, OP_some, BR_dec, if_pos ⟨rfl, rfl, rfl, rfl⟩]
  simp only [e_not, BR_bool, Option.isSome_none, Bool.not_false, if_true]
  refine (awake12_ok M28).mono fun v M29 ⟨hu29, hv⟩ => ?_
  subst hv; exact ⟨rfl, hQ _ _ rfl⟩

end Go.G
