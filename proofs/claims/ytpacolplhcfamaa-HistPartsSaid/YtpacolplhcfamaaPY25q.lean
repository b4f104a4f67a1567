/- HistParts: a part of a trace is within the commits that the whole is within. -/
import Derived.Test.YtpacolplhcfamaaPY25c
import Derived.Test.YtpacolplhcfamaaPY25p
import Derived.Test.YtpacolplhcfamaaPY25x
import Derived.Test.YtpacolplhcfamaaPY25r
import Derived.Test.YtpacolplhcfamaaPGHp
namespace Go.G
open Go.Ab Go.Proofs Go.RowKit
set_option linter.unusedVariables false
set_option linter.unusedSimpArgs false
set_option maxRecDepth 100000

theorem bl_c0 : bldL (.agg #[(.int .i64 0), (.string ⟨#[]⟩), (.slice none 0 0), (.bool false)]) 4 0 [] = some [] := by kernel_rfl
theorem bl_s3p : bldL (.string ⟨#[]⟩) 1 3 [(0, (.string ⟨#[97]⟩)), (1, (.string ⟨#[98]⟩)), (2, (.string ⟨#[99]⟩))] = some (abcT.map sv) := by kernel_rfl
theorem bs_d1 (t : List UInt8) : bldS #[(.int .i64 0), (.int .i64 0), (.string ⟨#[]⟩)] [(0, 1), (1, 1), (2, 1)] [(0, (.int .i64 1)), (2, sv t)] = some (dv (1, 0, t)) := by kernel_rfl
theorem bs_q0 (a : Int) (t : List UInt8) (x : Tr3) : bldS #[(.string ⟨#[]⟩), (.int .i64 0), (.int .i64 0), (.slice none 0 0)] [(0, 1), (1, 1), (2, 1), (3, 1)] [(0, sv t), (1, iv a), (3, slT x)] = some (.agg (qcs ((t, a, 0, []), x)).toArray) := by obtain ⟨x1, x2, x3⟩ := x; kernel_rfl
def ch (picks : Int) (i : Nat) : Bool := decide (andN (shrN picks i) 1 = 1)
def chosen (picks : Int) (n : Nat) : List Nat := (List.range n).filter (ch picks)
theorem chosen_succ (picks : Int) (n : Nat) : chosen picks (n + 1) = chosen picks n ++ (if ch picks n = true then [n] else []) := by
  unfold chosen
  rw [List.range_succ, List.filter_append]
  congr 1
  by_cases h : ch picks n = true
  · rw [List.filter_cons_of_pos h, if_pos h]; rfl
  · rw [List.filter_cons_of_neg h, if_neg h]; rfl
theorem chosen_inc (picks : Int) (n : Nat) : inc n (chosen picks n) = true := inc_iff.2 List.filter_sublist
section
variable {M0 : Store} {ns : List Int} {n : Nat} {Q : Value → Store → Prop}
/-- Whether a part is within. -/
theorem parts_with {M : Store} {x10 x9 : Value} {ds : List DQ} {ps : List CP} {is : List Nat} (hd : QL M x10 ds) (hc : CL M x9 ps) (h1 : dms ds = is.map (dfF ns)) (h2 : cms ps = (List.range n).map (cfF ns)) (hn : n ≤ 14) (his : ∀ i ∈ is, i < 14) (hl : ds.length ≤ 100) (hb : ∀ p ∈ ps, p.1.2.2.1.length ≤ 2 ^ 22) {K : Value → Store → Prop}
    (hK : ∀ M', Up M M' → K (tv (inc n is)) M') : R F.hist_Within #[x10, x9] M K := by
  have hpl : ps.length = n := by have := congrArg List.length h2; simpa [cms] using this
  refine (Within_ok hd hc (by omega) (by omega) hb).mono fun r M' ⟨u, e⟩ => ?_
  subst e
  rw [h1, h2, with_sub ns _ _ his (fun j hj => by have := List.mem_range.1 hj; omega)]
  exact hK M' u
theorem q_to {M : Store} {v : Value} {ds : List DQ} (h : QL M v ds) {n : Nat} (hn : n ≤ ds.length) : ∃ v', slV 4 Ty.api_Done v none (some (iv (n : Int))) M = some v' ∧ QL M v' (ds.take n) := by
  obtain ⟨v', e, hL⟩ := LK.cut qcs_len h.1 (lo := none) (hi := some (iv (n : Int))) (a := 0) (r := n) (ab_some hn .i64) rfl hn (Nat.zero_le _)
  rw [List.drop_zero] at hL
  exact ⟨v', e, hL, fun p hp => h.2 p (List.mem_of_mem_take hp)⟩
theorem q_from {M : Store} {v : Value} {ds : List DQ} (h : QL M v ds) {n : Nat} (hn : n ≤ ds.length) : ∃ v', slV 4 Ty.api_Done v (some (iv (n : Int))) none M = some v' ∧ QL M v' (ds.drop n) := by
  obtain ⟨v', e, hL⟩ := LK.cut qcs_len h.1 (lo := some (iv (n : Int))) (hi := none) (a := n) (r := ds.length) rfl (ab_some hn .i64) (Nat.le_refl _) hn
  rw [List.take_length] at hL
  exact ⟨v', e, hL, fun p hp => h.2 p (List.mem_of_mem_drop hp)⟩
theorem map_take {ds : List DQ} {is : List Nat} (h : dms ds = is.map (dfF ns)) (k : Nat) : dms (ds.take k) = (is.take k).map (dfF ns) := by
  unfold dms at *; rw [List.map_take, List.map_take, h]
theorem map_drop {ds : List DQ} {is : List Nat} (h : dms ds = is.map (dfF ns)) (k : Nat) : dms (ds.drop k) = (is.drop k).map (dfF ns) := by
  unfold dms at *; rw [List.map_drop, List.map_drop, h]
theorem map_app {ds es : List DQ} {is js : List Nat} (h : dms ds = is.map (dfF ns)) (k : dms es = js.map (dfF ns)) : dms (ds ++ es) = (is ++ js).map (dfF ns) := by
  unfold dms at *; rw [List.map_append, List.map_append, h, k]
variable {x9 x10 : Value} {ds : List DQ} {ps : List CP} {is : List Nat}
theorem parts_end {M : Store} {a' b' : Int} (hu : Up M0 M) (hd : QL M0 x10 ds) (hc : CL M0 x9 ps) (h1 : dms ds = is.map (dfF ns)) (h2 : cms ps = (List.range n).map (cfF ns)) (hn : n ≤ 14) (hinc : inc n is = true) (hl : ds.length ≤ 14) (hb : ∀ p ∈ ps, p.1.2.2.1.length ≤ 2 ^ 22) (hQ : ∀ M, Q (tv true) M) :
    P_fettlelaw25_HistParts_6 (iv a') (iv b') x9 x10 M Q := by
  have hil : is.length = ds.length := by have := congrArg List.length h1; simpa [dms] using this.symm
  have hin : ∀ i ∈ is, i < 14 := fun i hi => by have := List.mem_range.1 ((inc_iff.1 hinc).subset hi); omega
  apply T_fettlelaw25_HistParts_6
  unfold S_fettlelaw25_HistParts_6
  have hd1 := hd.up hu
  rw [LK.len hd1.1, OP_some]
  show OP (binI .lss (iv (ds.length : Int)) (.int .i64 2)) _
  rw [lss_l 2 2 rfl, BR_dec]
  split
  · exact awake25_ok ⟨rfl, hQ _⟩
  rename_i h2l
  have hpos : 0 < ds.length := by omega
  show OP (binI .and (.int .i64 a') (.int .i64 ((255 : Nat) : Int))) _
  rw [e_andN a' 255 (by decide), OP_some, OP_some, e_rem _ _ hpos, OP_some]
  show OP (binI .and (.int .i64 b') (.int .i64 ((255 : Nat) : Int))) _
  rw [e_andN b' 255 (by decide), OP_some, OP_some, e_rem _ _ hpos, OP_some]
  have ha : andN a' 255 % ds.length < ds.length := Nat.mod_lt _ hpos
  have hbk : andN b' 255 % ds.length < ds.length := Nat.mod_lt _ hpos
  generalize andN a' 255 % ds.length = a at *
  generalize andN b' 255 % ds.length = b at *
  rw [bl_q0', OP_some]
  refine s_lit (s := 4) (n := 0) rfl fun M2 u2 g2 _ _ => ?_
  have g2 : NQM M M2 (.slice (some ⟨M.n, 0, none⟩) 0 0) [] := g2
  refine NK.apps u2 (Nat.le_refl _) u2.n g2 (Sl.up hd1.1 u2) (by simp; omega) fun v3 M3 u3 hN3 _ _ => ?_
  rw [List.nil_append] at hN3
  rw [q_ld hN3.sl hbk, q_ld hN3.sl ha]
  refine nq_put hN3 ha ds[b] fun M4 bx4 e4 hb4 hlt4 hs4 c4 hN4 k4 => ⟨Ch.tdxR c4 hs4 (by unfold accB; rw [Bool.or_eq_true]; exact .inl (decide_eq_true hlt4)), ?_⟩
  refine nq_put hN4 (i := b) (by rw [List.length_set]; exact hbk) ds[a] fun M5 bx5 e5 hb5 hlt5 hs5 c5 hN5 k5 => ⟨Ch.tdxR c5 hs5 (by
    have : bx5 = bx4 := by rw [e4] at e5; injection e5 with e5; exact e5.symm
    subst this
    unfold accB; rw [Bool.or_eq_true]; exact .inl (decide_eq_true hlt4)), ?_⟩
  have u5 : Up M M5 := (u3.ch c4 (by simpa using hb4)).ch c5 (by simpa using hb5)
  have hd5 := hd1.up u5
  have hc5 := (hc.up hu).up u5
  rw [eql_n]
  have hset : dms ((ds.set a ds[b]).set b ds[a]) = ((is.set a (is[b]'(by omega))).set b (is[a]'(by omega))).map (dfF ns) := by
    have e : ∀ j (hj : j < ds.length), (dms ds)[j]'(by simpa [dms] using hj) = ds[j].1 := fun j hj => by simp [dms]
    have e2 : ∀ j (hj : j < ds.length), ds[j].1 = dfF ns (is[j]'(by omega)) := fun j hj => by
      rw [← e j hj]
      have : (dms ds)[j]? = (is.map (dfF ns))[j]? := by rw [h1]
      rw [List.getElem?_eq_getElem (by simpa [dms] using hj), List.getElem?_eq_getElem (by simp; omega)] at this
      injection this with this
      rw [this, List.getElem_map]
    unfold dms
    rw [List.map_set, List.map_set, List.map_set, List.map_set, e2 b hbk, e2 a ha]
    have : ds.map (·.1) = is.map (dfF ns) := h1
    rw [this]
  have hQL5 : QL M5 v3 ((ds.set a ds[b]).set b ds[a]) := ⟨hN5.sl, fun p hp => by
    have : p ∈ ds := by
      rcases List.mem_or_eq_of_mem_set hp with hp | hp
      · rcases List.mem_or_eq_of_mem_set hp with hp | hp
        · exact hp
        · rw [hp]; exact List.getElem_mem hbk
      · rw [hp]; exact List.getElem_mem ha
    exact hd5.2 p this⟩
  refine parts_with hQL5 hc5 hset h2 hn (fun i hi => ?_) (by simp; omega) hb fun M6 u6 => ⟨u6.tdx _ _ _, ?_⟩
  · rcases List.mem_or_eq_of_mem_set hi with hi | hi
    · rcases List.mem_or_eq_of_mem_set hi with hi | hi
      · exact hin i hi
      · rw [hi]; exact hin _ (List.getElem_mem _)
    · rw [hi]; exact hin _ (List.getElem_mem _)
  rw [swap_no hinc (by omega) (by omega)]
  show OP (abin Try.prog false .eql Ty.bool (tv _) (tv _)) _
  rw [bool_eq', BR_bool, if_pos (by simp), OP_some]
  refine s_lit (s := 4) (n := 0) rfl fun M7 u7 g7 _ _ => ?_
  have g7 : NQM M6 M7 (.slice (some ⟨M6.n, 0, none⟩) 0 0) [] := g7
  have hd6 := hd5.up u6
  refine NK.apps u7 (Nat.le_refl _) u7.n g7 (Sl.up hd6.1 u7) (by simp; omega) fun v8 M8 u8 hN8 c8 _ => ⟨?_, ?_⟩
  · have c8 : Ch [] M7 M8 := c8
    exact (show Up M7 M8 from c8).tdj _ _
  rw [List.nil_append] at hN8
  have hd8 := hd6.up u8
  rw [q_ld hd8.1 ha, bl_q', OP_some]
  refine s_lit (s := 4) (n := 1) rfl fun M9 u9 g9 _ _ => ?_
  have g9 : LK 4 qcs Ty.api_Done M9 (.slice (some ⟨M8.n, 0, none⟩) 1 1) [ds[a]] := by
    have : [ds[a]].flatMap qcs = qcs ds[a] := by simp
    show Sl 4 _ _ _ 1 ([ds[a]].flatMap qcs)
    rw [this]; exact g9.sl
  refine NK.apps (u8.trans u9) (Nat.le_refl _) (u8.trans u9).n (Nw.up hN8 u9) g9 (by simp; omega) fun v10 M10 u10 hN10 c10 _ => ⟨?_, ?_⟩
  · cases hkl : kil v8 with
    | none =>
      have : Up M9 M10 := by have := c10; rw [show kl v8 = [] from by unfold kl; rw [hkl]; rfl] at this; exact this
      exact this.tdx _ _ _
    | some bb =>
      have hbb := Nw.bx_in hN8 hkl
      have c10 : Ch [bb] M9 M10 := by have := c10; rw [show kl v8 = [bb] from by unfold kl; rw [hkl]; rfl] at this; exact this
      refine Ch.tdxR c10 ?_ ?_
      · obtain ⟨cells, hcc⟩ := Nw.kl_inl (Nw.up hN8 u9) (b := bb) (by rw [mem_kl]; exact hkl)
        rw [hcc]; rfl
      · by_cases hlt : bb < M7.n
        · exact accB_of (j := 8) (by decide) (by decide) hbb.1 hlt
        · exact accB_of (j := 10) (by decide) (by decide) (by simpa using hlt) hbb.2
  have hc10 := ((hc5.up u6).up u10)
  have hQL10 : QL M10 v10 (ds ++ [ds[a]]) := ⟨hN10.sl, fun p hp => by
    have : p ∈ ds := by
      rcases List.mem_append.1 hp with hp | hp
      · exact hp
      · have : p = ds[a] := by simpa using hp
        rw [this]; exact List.getElem_mem ha
    exact (hd6.up u10).2 p this⟩
  have hone : dms [ds[a]] = [is[a]'(by omega)].map (dfF ns) := by
    have h3 := map_drop h1 a
    rw [List.drop_eq_getElem_cons ha, List.drop_eq_getElem_cons (show a < is.length by omega)] at h3
    unfold dms at h3 ⊢
    simp only [List.map_cons, List.cons.injEq] at h3
    simp only [List.map_cons, List.map_nil, h3.1]
  refine parts_with hQL10 hc10 (map_app h1 hone) h2 hn (fun i hi => ?_) (by simp; omega) hb fun M11 u11 => ⟨u11.tdx _ _ _, ?_⟩
  · rcases List.mem_append.1 hi with hi | hi
    · exact hin i hi
    · have : i = is[a]'(by omega) := by simpa using hi
      rw [this]; exact hin _ (List.getElem_mem _)
  rw [more_no (by omega), e_not, BR_bool, if_pos (show (!false) = true from rfl)]
  exact awake25_ok ⟨(show Up M11 M11 from Ch.refl _ _).tdx _ _ _, rfl, hQ _⟩
theorem parts_each {a' b' : Int} (hd : QL M0 x10 ds) (hc : CL M0 x9 ps) (h1 : dms ds = is.map (dfF ns)) (h2 : cms ps = (List.range n).map (cfF ns)) (hn : n ≤ 14) (hinc : inc n is = true) (hl : ds.length ≤ 14) (hb : ∀ p ∈ ps, p.1.2.2.1.length ≤ 2 ^ 22) (hQ : ∀ M, Q (tv true) M) :
    ∀ (k i : Nat) (M : Store), k + i = ds.length → Up M0 M → P_fettlelaw25_HistParts_4 (iv a') (iv b') x9 x10 (iv (ds.length : Int)) (iv (i : Int)) M Q := by
  have hil0 : is.length = ds.length := by have := congrArg List.length h1; simpa [dms] using this.symm
  have hin : ∀ i ∈ is, i < 14 := fun i hi => by have := List.mem_range.1 ((inc_iff.1 hinc).subset hi); omega
  intro k
  induction k with
  | zero =>
    intro i M hi hu
    apply T_fettlelaw25_HistParts_4
    unfold S_fettlelaw25_HistParts_4
    rw [lss_n, BR_dec, if_neg (by omega)]
    exact parts_end (M0 := M0) hu hd hc h1 h2 hn hinc hl hb hQ
  | succ k ih =>
    intro i M hi hu
    have hil : i < ds.length := by omega
    apply T_fettlelaw25_HistParts_4
    unfold S_fettlelaw25_HistParts_4
    rw [lss_n, BR_dec, if_pos hil]
    apply T_fettlelaw25_HistParts_5
    unfold S_fettlelaw25_HistParts_5
    obtain ⟨v0, e0, q0⟩ := q_to (hd.up hu) (n := i) (by omega)
    rw [e0, OP_some]
    refine parts_with q0 (hc.up hu) (map_take h1 i) h2 hn (fun j hj => hin j (List.mem_of_mem_take hj)) (by rw [List.length_take]; omega) hb fun M1 u1 => ⟨u1.tdx _ _ _, ?_⟩
    rw [inc_sub hinc (List.take_sublist i is), e_not, BR_bool, if_neg (by decide), bl_q0', OP_some]
    have hu1 := hu.trans u1
    refine s_lit (s := 4) (n := 0) rfl fun M2 u2 g2 _ _ => ?_
    have g2 : NQM M1 M2 (.slice (some ⟨M1.n, 0, none⟩) 0 0) [] := g2
    obtain ⟨v2, e2, q2⟩ := q_to (hd.up (hu1.trans u2)) (n := i) (by omega)
    rw [e2, OP_some]
    refine NK.apps u2 (Nat.le_refl _) u2.n g2 q2.1 (by rw [List.length_take]; simp; omega) fun v3 M3 u3 hN3 c3 _ => ⟨?_, ?_⟩
    · have c3 : Ch [] M2 M3 := c3
      exact (show Up M2 M3 from c3).tdj _ _
    rw [List.nil_append] at hN3
    rw [add1_n _ (by omega)]
    obtain ⟨v4, e4, q4⟩ := q_from (hd.up (hu1.trans u3)) (n := i + 1) (by omega)
    rw [e4, OP_some]
    refine NK.apps u3 (Nat.le_refl _) u3.n hN3 q4.1 (by rw [List.length_take, List.length_drop]; omega) fun v5 M4 u4 hN4 c4 _ => ⟨?_, ?_⟩
    · cases hkl : kil v3 with
      | none =>
        have : Up M3 M4 := by have := c4; rw [show kl v3 = [] from by unfold kl; rw [hkl]; rfl] at this; exact this
        exact this.tdx _ _ _
      | some bb =>
        have hbb := Nw.bx_in hN3 hkl
        have c4 : Ch [bb] M3 M4 := by have := c4; rw [show kl v3 = [bb] from by unfold kl; rw [hkl]; rfl] at this; exact this
        refine Ch.tdxR c4 ?_ ?_
        · obtain ⟨cells, hcc⟩ := Nw.kl_inl hN3 (b := bb) (by rw [mem_kl]; exact hkl)
          rw [hcc]; rfl
        · by_cases hlt : bb < M2.n
          · exact accB_of (j := 7) (by decide) (by decide) hbb.1 hlt
          · exact accB_of (j := 11) (by decide) (by decide) (by simpa using hlt) hbb.2
    have hu4 := hu1.trans u4
    have hQ4 : QL M4 v5 (ds.take i ++ ds.drop (i + 1)) := ⟨hN4.sl, fun p hp => by
      have : p ∈ ds := by
        rcases List.mem_append.1 hp with hp | hp
        · exact List.mem_of_mem_take hp
        · exact List.mem_of_mem_drop hp
      exact (hd.up hu4).2 p this⟩
    have hsub : (is.take i ++ is.drop (i + 1)).Sublist is := by
      have h3 : (is.drop (i + 1)).Sublist (is.drop i) := by
        rw [show is.drop (i + 1) = (is.drop i).drop 1 from by rw [List.drop_drop]]
        exact List.drop_sublist 1 _
      have h4 := List.Sublist.append (List.Sublist.refl (is.take i)) h3
      rwa [List.take_append_drop] at h4
    refine parts_with hQ4 (hc.up hu4) (map_app (map_take h1 i) (map_drop h1 (i + 1))) h2 hn (fun j hj => hin j (hsub.subset hj)) (by rw [List.length_append, List.length_take, List.length_drop]; omega) hb fun M5 u5 => ⟨u5.tdx _ _ _, ?_⟩
    rw [inc_sub hinc hsub, e_not, BR_bool, if_neg (by decide), add1_n _ (by omega)]
    exact ih (i + 1) M5 (by omega) (hu4.trans u5)
theorem parts_fin {M : Store} {a' b' : Int} (hd : QL M x10 ds) (hc : CL M x9 ps) (h1 : dms ds = is.map (dfF ns)) (h2 : cms ps = (List.range n).map (cfF ns)) (hn : n ≤ 14) (hinc : inc n is = true) (hl : ds.length ≤ 14) (hb : ∀ p ∈ ps, p.1.2.2.1.length ≤ 2 ^ 22) (hQ : ∀ M, Q (tv true) M) :
    P_fettlelaw25_HistParts_3 (iv a') (iv b') x9 x10 M Q := by
  have hin : ∀ i ∈ is, i < 14 := fun i hi => by have := List.mem_range.1 ((inc_iff.1 hinc).subset hi); omega
  have hpl : ps.length = n := by have := congrArg List.length h2; simpa [cms] using this
  apply T_fettlelaw25_HistParts_3
  unfold S_fettlelaw25_HistParts_3
  refine (Honest_ok hc (by omega) hb).mono fun r M1 ⟨u1, e1⟩ => ?_
  subst e1
  have hall : (cms ps).all honF = true := by
    rw [h2]
    refine List.all_eq_true.2 fun c hc => ?_
    obtain ⟨i, hi, rfl⟩ := List.mem_map.1 hc
    exact cf_hon ns i (by have := List.mem_range.1 hi; omega)
  rw [hall, e_not, BR_bool, if_neg (by decide)]
  refine parts_with (hd.up u1) (hc.up u1) h1 h2 hn hin (by omega) hb fun M2 u2 => ?_
  rw [hinc, e_not, BR_bool, if_neg (by decide), bl_c0, OP_some]
  have u12 := u1.trans u2
  refine s_lit (s := 4) (n := 0) rfl fun M3 u3 g3 _ _ => ?_
  have g3 : NCM M2 M3 (.slice (some ⟨M2.n, 0, none⟩) 0 0) [] := g3
  have hc3 := hc.up (u12.trans u3)
  refine NK.apps u3 (Nat.le_refl _) u3.n g3 hc3.1 (by simp; omega) fun v4 M4 u4 hN4 c4 _ => ?_
  rw [List.nil_append] at hN4
  have u04 := u12.trans u4
  refine (Commit_ok a').mono fun r M5 ⟨u5, p, e, hp, hpl', _⟩ => ?_
  subst e
  have u05 := u04.trans u5
  refine app_cm (M0 := M2) (u4.trans u5) (Nw.up hN4 u5) (hc.up u05).2 hp (by omega) fun v6 M6 u6 hN6 hB6 _ => ?_
  have u06 : Up M M6 := u12.trans u6
  have hcm : cms (ps ++ [p]) = cms ps ++ [p.1] := by unfold cms; rw [List.map_append]; rfl
  refine (Within_ok (hd.up u06) ⟨hN6.sl, hB6⟩ (by omega) (by simp; omega) (fun q hq => ?_)).mono fun r M7 ⟨u7, e7⟩ => ?_
  · rcases List.mem_append.1 hq with hq | hq
    · exact hb q hq
    · have : q = p := by simpa using hq
      subst this; omega
  subst e7
  have hw : withF (dms ds) (cms (ps ++ [p])) = true := by
    rw [hcm]
    refine with_more _ _ _ ?_
    rw [h1, h2, with_sub ns _ _ hin (fun j hj => by have := List.mem_range.1 hj; omega)]
    exact hinc
  rw [hw, e_not, BR_bool, if_neg (by decide)]
  have u07 := u06.trans u7
  rw [LK.len (hd.up u07).1, OP_some]
  exact parts_each (M0 := M7) (hd.up u07) (hc.up u07) h1 h2 hn hinc hl hb hQ ds.length 0 M7 rfl (Ch.refl _ _)
end
theorem parts_make {M0 : Store} {x0 : Value} {ns : List Int} {picks a' b' : Int} {Q : Value → Store → Prop} (h : LV iv Ty.int M0 x0 ns) (hQ : ∀ M, Q (tv true) M) : ∀ (k i : Nat) (x9 x10 : Value) (ps : List CP) (ds : List DQ) (M : Store), k + i = 14 → Up M0 M → NCM M0 M x9 ps → CB M ps → NQM M0 M x10 ds → QB M ds →
    cms ps = (List.range i).map (cfF ns) → dms ds = (chosen picks i).map (dfF ns) → (∀ p ∈ ps, p.1.2.2.1.length ≤ 2 ^ 22) → P_fettlelaw25_HistParts_1 x0 (iv picks) (iv a') (iv b') x9 x10 (iv (i : Int)) M Q := by
  intro k
  have fin : ∀ (i : Nat) (x9 x10 : Value) (ps : List CP) (ds : List DQ) (M : Store), i ≤ 14 → NCM M0 M x9 ps → CB M ps → NQM M0 M x10 ds → QB M ds → cms ps = (List.range i).map (cfF ns) → dms ds = (chosen picks i).map (dfF ns) → (∀ p ∈ ps, p.1.2.2.1.length ≤ 2 ^ 22) → P_fettlelaw25_HistParts_3 (iv a') (iv b') x9 x10 M Q := by
    intro i x9 x10 ps ds M hi hN hB hD hDB h2 h1 hb
    have hcl : (chosen picks i).length ≤ i := by
      have := (List.filter_sublist (l := List.range i) (p := ch picks)).length_le
      unfold chosen
      simpa using this
    have hdl : ds.length = (chosen picks i).length := by have := congrArg List.length h1; simpa [dms] using this
    exact parts_fin ⟨hD.sl, hDB⟩ ⟨hN.sl, hB⟩ h1 h2 hi (chosen_inc picks i) (by omega) hb hQ
  induction k with
  | zero =>
    intro i x9 x10 ps ds M hi hu hN hB hD hDB h2 h1 hb
    apply T_fettlelaw25_HistParts_1
    unfold S_fettlelaw25_HistParts_1
    rw [(h.up hu).len, OP_some, lss_n, BR_dec]
    split
    · rw [lss_l 14 14 rfl, BR_dec, if_neg (by omega)]
      exact fin i x9 x10 ps ds M (by omega) hN hB hD hDB h2 h1 hb
    · exact fin i x9 x10 ps ds M (by omega) hN hB hD hDB h2 h1 hb
  | succ k ih =>
    intro i x9 x10 ps ds M hi hu hN hB hD hDB h2 h1 hb
    have hcl : (chosen picks i).length ≤ i := by
      have := (List.filter_sublist (l := List.range i) (p := ch picks)).length_le
      unfold chosen
      simpa using this
    have hdl : ds.length = (chosen picks i).length := by have := congrArg List.length h1; simpa [dms] using this
    have hpl : ps.length = i := by have := congrArg List.length h2; simpa [cms] using this
    apply T_fettlelaw25_HistParts_1
    unfold S_fettlelaw25_HistParts_1
    rw [(h.up hu).len, OP_some, lss_n, BR_dec]
    split
    · rename_i hil
      have hi14 : i < 14 := by omega
      rw [lss_l 14 14 rfl, BR_dec, if_pos hi14]
      apply T_fettlelaw25_HistParts_2
      unfold S_fettlelaw25_HistParts_2
      show OP (binI .add (.int .i64 97) (.int .i64 (i : Int))) _
      rw [e_add, w64 (by omega) (by omega), cv_u8N, bl_bv]
      refine s_lit (s := 1) (n := 1) rfl fun M1 u1 g1 _ _ => ?_
      have g1 : B M1 (.slice (some ⟨M.n, 0, none⟩) 1 1) [letF i] := g1.sl
      rw [cvBS_ok g1, OP_some]
      show OP (bldS _ _ [(0, (.int .i64 1)), (2, sv [letF i])]) _
      rw [bs_d1, OP_some]
      rw [show bldL (.agg #[(.int .i64 0), (.int .i64 0), (.string ⟨#[]⟩)]) 3 1 [(0, dv (1, 0, [letF i]))] = some (dcs (1, 0, [letF i])) from bl_do _, OP_some]
      refine s_lit (s := 3) (n := 1) rfl fun M2 u2 g2 _ _ => ?_
      have g2 : DS M2 (.slice (some ⟨M1.n, 0, none⟩) 1 1) (actP i) := g2.sl
      refine (RPrint_ok g2 (by simp [actP]) (by simp [actP]) (w := .slice none 0 0) (ins := []) ⟨[], Sl.nil _ _ _, trivial⟩ (by simp) (by simp)).mono fun t35 M3 ⟨u3, h3⟩ => ?_
      have h3 : N M2 M3 t35 (pT i) := h3
      have hpT := pT_len i hi14
      refine (RValue_ok h3.by (by omega)).mono fun r4 M4 ⟨u4, h4⟩ => ?_
      rw [pT_val i hi14] at h4
      obtain ⟨t39, e4, h39, _⟩ := h4
      subst e4
      rw [(tp2b _ _).1, (tp2b _ _).2]
      have u04 : Up M M4 := ((u1.trans u2).trans u3).trans u4
      obtain ⟨p0, f1, f2⟩ := (h.up (hu.trans u04)).at hil .i64
      show OP (ixA 1 x0 (.int .i64 (i : Int))) _
      rw [f1, OP_some, f2, OP_some]
      show OP (binI .and (.int .i64 ns[i]) (.int .i64 ((3 : Nat) : Int))) _
      rw [e_andN _ 3 (by decide), OP_some, bl_s3p, OP_some]
      refine s_lit (s := 1) (n := 3) rfl fun M5 u5 g5 _ _ => ?_
      have g5 : LV sv Ty.string M5 (.slice (some ⟨M4.n, 0, none⟩) 3 3) abcT := g5.sl
      have u05 := u04.trans u5
      obtain ⟨p9, f3, f4⟩ := (h.up (hu.trans u05)).at hil .i64
      rw [f1] at f3
      injection f3 with f3
      subst f3
      rw [OP_some, f4, OP_some]
      show OP (binI .shr (.int .i64 ns[i]) (.int .u64 ((2 : Nat) : Int))) _
      rw [e_shrN _ 2 (by decide)]
      show OP (binI .and (.int .i64 (shrN ns[i] 2)) (.int .i64 ((255 : Nat) : Int))) _
      rw [e_andN _ 255 (by decide), OP_some]
      show OP (binI .rem (.int .i64 (andN (shrN ns[i] 2) 255 : Int)) (.int .i64 ((3 : Nat) : Int))) _
      rw [e_rem _ _ (by decide), OP_some]
      have hj : andN (shrN ns[i] 2) 255 % 3 < abcT.length := Nat.mod_lt _ (by decide)
      obtain ⟨p5, f5, f6⟩ := g5.at hj .i64
      rw [f5, OP_some, f6, OP_some]
      have hnd : ns.getD i 0 = ns[i] := by rw [List.getD_eq_getElem?_getD, List.getElem?_eq_getElem hil]; rfl
      have htg : abcT[andN (shrN ns[i] 2) 255 % 3] = tgF ns i := by
        unfold tgF
        rw [hnd, List.getD_eq_getElem?_getD, List.getElem?_eq_getElem hj]; rfl
      have hwho : andN ns[i] 3 = whoF ns i := by unfold whoF; rw [hnd]
      rw [htg, hwho]
      have h35 := Sl.up h3.by (u4.trans u5)
      refine (RMake_ok h35 (Sl.up h39 u5) (by omega) (by simp)).mono fun t58 M6 ⟨u6, h58⟩ => ⟨u6.tdj _ _, ?_⟩
      obtain ⟨y, rfl⟩ := slT_of h58.by
      rw [bs_c, OP_some]
      refine s_new fun M7 u7 o7 _ => ?_
      refine s_st (vs := ccs ((((whoF ns i : Nat) : Int), tgF ns i, [], false), y)) o7 rfl rfl (ccs_one _) fun M8 c8 o8 _ => ⟨?_, ?_⟩
      · refine Ch.tdxR c8 (by rw [show M7.get M6.n = _ from o7]; rfl) (accB_of (j := 19) (by decide) (by decide) (Nat.le_refl _) o7.lt)
      have o8 : Ob M8 M6.n (ccs (cfF ns i, y)) Ty.api_Commit := o8
      have u68 : Up M6 M8 := u7.ch c8 (by simp)
      have u08 : Up M M8 := (u05.trans u6).trans u68
      rw [o8.ldA (s := 4) rfl, OP_some]
      refine app_cm (M0 := M0) (p := (cfF ns i, y)) (hu.trans u08) (Nw.up hN u08) (hB.up u08) (Sl.up h58.by u68) (by omega) fun v' M9 hu9 hN9 hB9 hc9 => ?_
      have k9 : Keep Ty.api_Commit M8 M9 := Nw.keepE (Nw.up hN u08) hc9
      have o9 := o8.fr hc9 (fun hm => by
        have := Nw.bx_in hN (mem_kl.1 hm)
        have h1 := (u05.trans u6).n
        omega)
      have o9 : Ob M9 M6.n [iv ((whoF ns i : Nat) : Int), sv (tgF ns i), slT y, tv false] Ty.api_Commit := o9
      have hD9 : NQM M0 M9 x10 ds := Nw.keep (Nw.up hD u08) (by decide) k9
      have hDB9 : QB M9 ds := fun p hp => Sl.keep (Sl.up (hDB p hp) u08) (by decide) k9
      have h35' : B M9 t35 (pT i) := Sl.keep (Sl.up h35 (u6.trans u68)) (by decide) k9
      show OP (cvI .u64 (.int .i64 (i : Int))) _
      rw [e_cvI, show IntKind.wrap .u64 (i : Int) = (i : Int) from by simp [IntKind.wrap, IntKind.bits, IntKind.signed]; omega]
      show OP (binI .shr (.int .i64 picks) (.int .u64 (i : Int))) _
      rw [e_shrN picks i (by omega)]
      show OP (binI .and (.int .i64 (shrN picks i)) (.int .i64 ((1 : Nat) : Int))) _
      rw [e_andN _ 1 (by decide), OP_some, eql_l 1 1 rfl, BR_dec]
      have hcms : cms (ps ++ [(cfF ns i, y)]) = (List.range (i + 1)).map (cfF ns) := by
        rw [List.range_succ, List.map_append, ← h2]
        unfold cms; rw [List.map_append]; rfl
      have hbs : ∀ p ∈ ps ++ [(cfF ns i, y)], p.1.2.2.1.length ≤ 2 ^ 22 := fun p hp => by
        rcases List.mem_append.1 hp with hp | hp
        · exact hb p hp
        · have : p = (cfF ns i, y) := by simpa using hp
          subst this
          show (makeF (pT i) [letF i]).length ≤ _
          rw [makeF_length]; simp; omega
      split
      · rename_i hch
        simp only [fad0, o9.l4]
        obtain ⟨z, rfl⟩ := slT_of h35'
        rw [bs_q0, OP_some]
        rw [show bldL (.agg #[(.string ⟨#[]⟩), (.int .i64 0), (.int .i64 0), (.slice none 0 0)]) 4 1 [(0, .agg (qcs ((tgF ns i, ((whoF ns i : Nat) : Int), 0, []), z)).toArray)] = some (qcs (dfF ns i, z)) from bl_q' (dfF ns i, z), OP_some]
        refine s_lit (s := 4) (n := 1) rfl fun Ma ua ga _ _ => ?_
        have ga : LK 4 qcs Ty.api_Done Ma (.slice (some ⟨M9.n, 0, none⟩) 1 1) [(dfF ns i, z)] := ga.sl
        obtain ⟨w', Mb, eb, hub, hNb, nb, _, cb⟩ := Nw.appV (hu9.trans ua) (Nw.up hD9 ua) ga (by rw [List.length_singleton]; omega)
        rw [eb, OP2_some, add1_n _ (by omega)]
        have kb : Keep Ty.api_Done Ma Mb := Nw.keepE (Nw.up hD9 ua) cb
        refine ih (i + 1) v' w' _ (ds ++ [(dfF ns i, z)]) Mb (by omega) hub (Nw.keep (Nw.up hN9 ua) (by decide) kb) (fun p hp => Sl.keep (Sl.up (hB9 p hp) ua) (by decide) kb) ?_ (fun p hp => ?_) hcms ?_ hbs
        · show Nw 4 _ _ _ _ _ _
          rw [List.length_append, List.flatMap_append]
          exact hNb
        · rcases List.mem_append.1 hp with hp | hp
          · exact Sl.keep (Sl.up (hDB9 p hp) ua) (by decide) kb
          · have : p = (dfF ns i, z) := by simpa using hp
            subst this
            exact Sl.keep (Sl.up h35' ua) (by decide) kb
        · rw [chosen_succ, if_pos (show ch picks i = true from decide_eq_true hch), List.map_append, ← h1]
          unfold dms; rw [List.map_append]; rfl
      · rename_i hch
        rw [add1_n _ (by omega)]
        refine ih (i + 1) v' x10 _ ds M9 (by omega) hu9 hN9 hB9 hD9 hDB9 hcms ?_ hbs
        rw [chosen_succ, if_neg (show ¬ ch picks i = true from fun e => hch (of_decide_eq_true e)), List.append_nil]; exact h1
    · exact fin i x9 x10 ps ds M (by omega) hN hB hD hDB h2 h1 hb
theorem HistParts_ok {M : Store} {x0 : Value} {ns : List Int} {picks a' b' : Int} (h : LV iv Ty.int M x0 ns) : R F.fettlelaw25_HistParts #[x0, iv picks, iv a', iv b'] M fun v M' => v = tv true := by
  refine R.cps fun Q hQ => ?_
  have hQ : ∀ M, Q (tv true) M := fun M => hQ _ _ rfl
  apply T_fettlelaw25_HistParts
  unfold S_fettlelaw25_HistParts
  exact parts_make (M0 := M) h hQ 14 0 _ _ [] [] M rfl (Ch.refl _ _) NK.nil (fun p hp => by cases hp) NK.nil (fun p hp => by cases hp) rfl rfl (fun p hp => by cases hp)
end Go.G
