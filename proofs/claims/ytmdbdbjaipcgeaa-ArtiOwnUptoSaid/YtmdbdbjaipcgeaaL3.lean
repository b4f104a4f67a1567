/- Bytes are framed, and frames found in any bytes, one behind the other, as the document says; for inputs of bulk at most 1048576. -/
import Derived.Test.YtmdbdbjaipcgeaaD3
namespace Go.G
open Go.Ab Go.Proofs Go.RowKit
set_option linter.unusedVariables false
set_option linter.unusedSimpArgs false
set_option maxRecDepth 100000

theorem e_and16 (n : Int) (h1 : -9223372036854775808 ≤ n) (h2 : n ≤ 9223372036854775807) : ∃ k : Nat, k < 65536 ∧ binI .and (.int .i64 n) (.int .i64 65535) = some (.int .i64 (k : Int)) := by
  have h : binI .and (.int .i64 n) (.int .i64 65535) = some (.int .i64 (IntKind.wrap .i64 (BitVec.ofInt 64 n &&& BitVec.ofInt 64 65535).toNat)) := rfl
  have hk : (BitVec.ofInt 64 n &&& BitVec.ofInt 64 65535).toNat < 65536 := by
    rw [BitVec.toNat_and]
    have : (BitVec.ofInt 64 65535).toNat = 65535 := rfl
    rw [this]
    exact Nat.lt_of_le_of_lt Nat.and_le_right (by decide)
  refine ⟨_, hk, ?_⟩
  rw [h, w64 (by omega) (by omega)]
theorem e_rem (a b : Nat) (hb : 0 < b) : binI .rem (.int .i64 (a : Int)) (.int .i64 (b : Int)) = some (.int .i64 ((a % b : Nat) : Int)) := by
  have h : binI .rem (.int .i64 (a : Int)) (.int .i64 (b : Int)) = if (b : Int) = 0 then none else some (.int .i64 ((a : Int).tmod b)) := rfl
  rw [h, if_neg (by omega), Int.tmod_eq_emod_of_nonneg (by omega)]; rfl

/-- A byte of one's own slice is written. -/
theorem N.put {M0 M : Store} (hu : Up M0 M) {v : Value} {l : List UInt8} (h : N M0 M v l) {i : Nat} (hi : i < l.length) (k : IntKind) (x : UInt8) :
    ∃ p M', ixA 1 v (.int k (i : Int)) = some p ∧ st 1 p (bv x) M = some M' ∧ Up M0 M' ∧ N M0 M' v (l.set i x) ∧ ∃ b, M0.n ≤ b ∧ Ch [b] M M' ∧ (∃ cells, Ob M b cells Ty.uint8) := by
  obtain ⟨h1, ⟨h0, _⟩ | ⟨b, cells, c, rfl, h2, h3, h4, h5, h6⟩⟩ := h
  · omega
  · have hob : Ob M b cells Ty.uint8 := h3
    rw [Nat.mul_one] at h4 h5
    refine ⟨.pointer (some ⟨b, 0 + i * 1, none⟩), M.set b (some (.inl (cells.set i (bv x), Ty.uint8, true))), ?_, ?_, hu.ch (Ch.setO hob _) (fun c hc => by simp at hc; omega), ⟨by simp, .inr ⟨b, cells.set i (bv x), c, by rw [List.length_set], h2, hob.setSt _, by rw [List.length_set, List.length_set]; omega, ?_, by rw [List.length_set]; exact h6⟩⟩, b, h2, Ch.setO hob _, cells, hob⟩
    · simp only [ixA]; rw [if_pos ⟨by omega, by omega, trivial⟩]; simp
    · rw [show 0 + i * 1 = i by omega]; exact hob.st (by omega) rfl rfl
    · rw [List.length_set, Nat.mul_one, List.take_set, h5, List.map_set]

theorem flen_cons (x : List UInt8) (r : List (List UInt8)) : flen (x :: r) = x.length + 10 + flen r := by simp [flen]
theorem flen_one (x : List UInt8) : flen [x] = x.length + 10 := by simp [flen]
structure FJ (M0 : Store) (b8 b16 b18 b19 : Nat) (mv : Value) (l : List UInt8) (d : List (List UInt8)) (M : Store) : Prop where
  o8 : Ob M b8 [.bool false] Ty.bool
  o16 : Ob M b16 [mv] Ty.sl_sl_uint8
  o18 : Ob M b18 [.int .i64 (d.length : Nat)] Ty.int
  o19 : Ob M b19 [.int .i64 (flen d : Nat)] Ty.int
  m : Ls B Ty.sl_uint8 M mv (scanF l)

theorem L3_round {m b8 b16 b18 b19 : Nat} {rc : LRec} {M0 : Store} {mv : Value} {l : List UInt8} (hl : l.length ≤ 2 ^ 24) {d : List (List UInt8)} {a : Nat} {N : Store} {x : List UInt8} {u : Value}
    (hRC : RC_fettlelaw3_FramTells_5 (.pointer (some ⟨b8, 0, none⟩)) (.pointer (some ⟨b16, 0, none⟩)) (.pointer (some ⟨b18, 0, none⟩)) (.pointer (some ⟨b19, 0, none⟩)) .ready 0 rc) (hrc : Rc N (m + 1) rc)
    (hne : b8 ≠ m + 1 ∧ b16 ≠ m + 1 ∧ b18 ≠ m + 1 ∧ b19 ≠ m + 1) (hd : b18 ≠ b19 ∧ b18 ≠ b16 ∧ b19 ≠ b16 ∧ b8 ≠ b18 ∧ b8 ≠ b19)
    (hI : FJ M0 b8 b16 b18 b19 mv l d N) (hx : B N u x) (ha : a = flen d) {r : List (List UInt8)} (hall : d ++ x :: r = scanF l) :
    RunsY Try.prog Ex (m + 1) #[.int .i64 (a : Int), u] N fun v N' => v = .bool true ∧ FJ M0 b8 b16 b18 b19 mv l (d ++ [x]) N' ∧ Rc N' (m + 1) rc ∧ Ch ((m + 1) :: [b18, b19]) N N' := by
  refine Y_fettlelaw3_FramTells_5 hrc.of hRC ?_
  unfold SY_fettlelaw3_FramTells_5
  have hst : rc.st = .ready ∧ rc.pe = 0 := by obtain ⟨f, _, _, _, _, rfl⟩ := hRC; exact ⟨rfl, rfl⟩
  rw [hrc.of, OP_some]
  refine ⟨hst.1, ?_⟩
  have hk1 := hrc.keepI { rc with st := .busy }
  have hc1 := hrc.ch { rc with st := .busy }
  have hrc1 := hrc.put { rc with st := .busy }
  generalize putRec N (m + 1) { rc with st := .busy } = N1 at *
  obtain ⟨o8, o16, o18, o19, hm⟩ := hI
  have o8' := o8.keepI hk1
  have o16' := o16.keepI hk1
  have o18' := o18.keepI hk1
  have o19' := o19.keepI hk1
  have hm' := hm.keepI By.keepI' hk1
  have hx' := hx.keepI hk1
  have hcnt := scanF_count l
  have hfl := scanF_flen l
  have hlen : (scanF l).length = d.length + 1 + r.length := by rw [← hall]; simp; omega
  have hflx : flen d + (x.length + 10) + flen r = flen (scanF l) := by rw [← hall, flen_append, flen_cons]; omega
  apply T_fettlelaw3_FramTells_6
  unfold S_fettlelaw3_FramTells_6
  obtain ⟨p, q, p1, p2, p3⟩ := hm'.at (i := d.length) (by omega) .i64
  have hxe : (scanF l)[d.length]'(by omega) = x := by
    have : (scanF l)[d.length]? = some x := by rw [← hall]; simp
    exact (List.getElem?_eq_some_iff.1 this).2
  rw [hxe] at p3
  have es : ∀ K : Value → Prop, OP (binS .neq (.string ⟨x.toArray⟩) (.string ⟨x.toArray⟩)) K = K (.bool false) := fun K => by rw [str_neq]; simp
  rw [o18'.ld (o := 0) rfl, OP_some, o16'.ld (o := 0) rfl, OP_some, hm'.lenV, OP_some, e_geq, BR_dec, if_neg (show ¬ (((d.length : Nat) : Int) ≥ ((scanF l).length : Int)) by omega), o19'.ld (o := 0) rfl, OP_some, e_neq, BR_dec, if_neg (show ¬ ((a : Int) ≠ ((flen d : Nat) : Int)) by rw [ha]; simp),
    cvBS_ok hx', OP_some, OP_some, OP_some, p1, OP_some, p2, OP_some, cvBS_ok p3, OP_some, es, BR_false, OP_some, e_add, hx'.lenV, OP_some, e_add]
  have e1 : IntKind.wrap .i64 (IntKind.wrap .i64 (((flen d : Nat) : Int) + 10) + (x.length : Int)) = ((flen (d ++ [x]) : Nat) : Int) := by
    rw [w64 (x := ((flen d : Nat) : Int) + 10) (by omega) (by omega), w64 (by omega) (by omega), flen_append, flen_one]; omega
  rw [e1, o19'.st (o := 0) (by simp) rfl rfl, OP_some]
  have c2 := Ch.setO o19' (some (.inl ([Value.int .i64 (flen d : Nat)].set 0 (.int .i64 (flen (d ++ [x]) : Nat)), Ty.int, true)))
  have q19 := o19'.setSt ([Value.int .i64 (flen d : Nat)].set 0 (.int .i64 (flen (d ++ [x]) : Nat)))
  have g2 : ∀ i, i ≠ b19 → (N1.set b19 (some (.inl ([Value.int .i64 (flen d : Nat)].set 0 (.int .i64 (flen (d ++ [x]) : Nat)), Ty.int, true)))).get i = N1.get i := fun i hi => Store.get_set_ne _ _ (Ne.symm hi)
  have k2 := c2.keepT o19'
  generalize N1.set b19 (some (.inl ([Value.int .i64 (flen d : Nat)].set 0 (.int .i64 (flen (d ++ [x]) : Nat)), Ty.int, true))) = N2 at *
  have q18 := o18'.same (g2 b18 hd.1)
  rw [q18.ld (o := 0) rfl, OP_some, e_add]
  have e2 : IntKind.wrap .i64 (((d.length : Nat) : Int) + 1) = (((d ++ [x]).length : Nat) : Int) := by rw [w64 (by omega) (by omega)]; simp
  rw [e2, q18.st (o := 0) (by simp) rfl rfl, OP_some]
  have c3 := Ch.setO q18 (some (.inl ([Value.int .i64 (d.length : Nat)].set 0 (.int .i64 ((d ++ [x]).length : Nat)), Ty.int, true)))
  have r18 := q18.setSt ([Value.int .i64 (d.length : Nat)].set 0 (.int .i64 ((d ++ [x]).length : Nat)))
  have g3 : ∀ i, i ≠ b18 → (N2.set b18 (some (.inl ([Value.int .i64 (d.length : Nat)].set 0 (.int .i64 ((d ++ [x]).length : Nat)), Ty.int, true)))).get i = N2.get i := fun i hi => Store.get_set_ne _ _ (Ne.symm hi)
  have k3 := c3.keepT q18
  generalize N2.set b18 (some (.inl ([Value.int .i64 (d.length : Nat)].set 0 (.int .i64 ((d ++ [x]).length : Nat)), Ty.int, true))) = N3 at *
  have hrc3 : Rc N3 (m + 1) { rc with st := .busy } := by unfold Rc; rw [g3 _ (Ne.symm hne.2.2.1), g2 _ (Ne.symm hne.2.2.2)]; exact hrc1
  unfold YE
  rw [hrc3.of, OP_some]
  have hk4 := hrc3.keepI { rc with st := bif Nat.beq 0 0 then .ready else .done, pe := 0 }
  have hc4 := hrc3.ch { rc with st := bif Nat.beq 0 0 then .ready else .done, pe := 0 }
  have hrc4 := hrc3.put { rc with st := bif Nat.beq 0 0 then .ready else .done, pe := 0 }
  have hrce : { rc with st := bif Nat.beq 0 0 then .ready else .done, pe := 0 } = rc := by
    obtain ⟨s, p, t, ps, asg, bd⟩ := rc; simp only at hst; obtain ⟨rfl, rfl⟩ := hst; rfl
  refine ⟨rfl, ⟨?_, ?_, ?_, ?_, ?_⟩, by rw [← hrce]; exact hrc4, ?_⟩
  · exact ((o8'.same (g2 b8 hd.2.2.2.2)).same (g3 b8 hd.2.2.2.1)).keepI hk4
  · exact ((o16'.same (g2 b16 (Ne.symm hd.2.2.1))).same (g3 b16 (Ne.symm hd.2.1))).keepI hk4
  · exact r18.keepI hk4
  · exact (q19.same (g3 b19 (Ne.symm hd.1))).keepI hk4
  · exact ((hm'.keep (By.keep' ne3) ne4 k2).keep (By.keep' ne3) ne4 k3).keepI By.keepI' hk4
  · exact (((hc1.mono (by simp)).trans (c2.mono (by simp))).trans (c3.mono (by simp))).trans (hc4.mono (by simp))

/-- Deferred blocks that are to be shut. -/
def Dfs (M0 : Store) (ds : List Deferred) (M : Store) : Prop := ∃ ms : List Nat, ds = ms.map (fun m => { target := .collected m, args := #[] }) ∧ ms.Nodup ∧ ∀ m ∈ ms, M0.n ≤ m ∧ M.get m = some (.inr (.inr none))
theorem Dfs.nil (M0 M : Store) : Dfs M0 [] M := ⟨[], rfl, List.nodup_nil, fun _ h => by cases h⟩
theorem Dfs.up {M0 M M' : Store} {ds : List Deferred} (h : Dfs M0 ds M) (k : Up M M') : Dfs M0 ds M' := by
  obtain ⟨ms, h1, h2, h3⟩ := h
  exact ⟨ms, h1, h2, fun m hm => ⟨(h3 m hm).1, k.get (h3 m hm).2⟩⟩
theorem Dfs.cons {M0 M : Store} {ds : List Deferred} (h : Dfs M0 ds M) {m : Nat} (hm : M.get m = some (.inr (.inr none))) (h0 : M0.n ≤ m) (hn : ∀ k, ({ target := .collected k, args := #[] } : Deferred) ∈ ds → k ≠ m) : Dfs M0 ({ target := .collected m, args := #[] } :: ds) M := by
  obtain ⟨ms, rfl, h2, h3⟩ := h
  refine ⟨m :: ms, rfl, List.nodup_cons.2 ⟨fun hk => hn m (List.mem_map.2 ⟨m, hk, rfl⟩) rfl, h2⟩, fun k hk => ?_⟩
  rcases List.mem_cons.1 hk with rfl | hk
  · exact ⟨h0, hm⟩
  · exact h3 k hk
theorem Dfs.take {M0 : Store} : ∀ {ds : List Deferred} {M : Store}, Up M0 M → Dfs M0 ds M → ∃ M', atake ds M = some M' ∧ Up M0 M' ∧ KeepI M M'
  | [], M, hu, _ => ⟨M, rfl, hu, Nat.le_refl _, fun _ _ h => h⟩
  | d :: ds, M, hu, ⟨ms, h1, h2, h3⟩ => by
    cases ms with
    | nil => cases h1
    | cons m ms =>
      simp only [List.map_cons, List.cons.injEq] at h1
      obtain ⟨rfl, rfl⟩ := h1
      obtain ⟨h4, h5⟩ := h3 m List.mem_cons_self
      rw [List.nodup_cons] at h2
      obtain ⟨M', g1, g2, g3⟩ := Dfs.take (M0 := M0) (ds := ms.map fun m => { target := .collected m, args := #[] }) (M := M.set m none) (Up.ch hu (Ch.set h5 _) fun c hc => by simp at hc; omega)
        ⟨ms, rfl, h2.2, fun k hk => ⟨(h3 k (List.mem_cons_of_mem _ hk)).1, by rw [Store.get_set_ne _ _ (fun e => h2.1 (by rw [e]; exact hk))]; exact (h3 k (List.mem_cons_of_mem _ hk)).2⟩⟩
      exact ⟨M', by simp only [atake, h5]; exact g1, g2, (KeepI.setR h5 _).trans g3⟩
theorem Dfs.lt {M0 M : Store} {ds : List Deferred} (h : Dfs M0 ds M) {k : Nat} (hk : ({ target := .collected k, args := #[] } : Deferred) ∈ ds) : k < M.n := by
  obtain ⟨ms, rfl, h2, h3⟩ := h
  obtain ⟨m, hm, he⟩ := List.mem_map.1 hk
  simp only [Deferred.mk.injEq, Target.collected.injEq, and_true] at he
  subst he
  exact M.lt_of_get (h3 m hm).2

theorem L3_end {M0 M : Store} {b8 : Nat} {ds : List Deferred} (hu : Up M0 M) (h0 : M0.n ≤ b8) (o8 : Ob M b8 [.bool false] Ty.bool) (hds : Dfs M0 ds M) {Q : Value → Store → Prop} (hQ : ∀ M', Up M0 M' → Q (.bool true) M') : P_fettlelaw3_FramTells_4 ds (.pointer (some ⟨b8, 0, none⟩)) M Q := by
  apply T_fettlelaw3_FramTells_4
  unfold S_fettlelaw3_FramTells_4
  refine (awake3_ok M).mono fun v M1 ⟨hu1, hv⟩ => ?_
  subst hv
  have o81 := o8.up hu1
  rw [o81.st (o := 0) (by simp) rfl rfl, OP_some]
  have c2 := Ch.setO o81 (some (.inl ([Value.bool false].set 0 (.bool true), Ty.bool, true)))
  have o82 := o81.setSt ([Value.bool false].set 0 (.bool true))
  have hu2 : Up M0 (M1.set b8 (some (.inl ([Value.bool false].set 0 (.bool true), Ty.bool, true)))) := Up.ch (hu.trans hu1) c2 fun c hc => by simp at hc; omega
  have hds2 : Dfs M0 ds (M1.set b8 (some (.inl ([Value.bool false].set 0 (.bool true), Ty.bool, true)))) := by
    obtain ⟨ms, h1, h2, h3⟩ := hds.up hu1
    refine ⟨ms, h1, h2, fun m hm => ⟨(h3 m hm).1, ?_⟩⟩
    rw [Store.get_set_ne _ _ (fun e => ?_)]
    · exact (h3 m hm).2
    · subst e; have := (h3 _ hm).2; rw [show M1.get b8 = _ from o81] at this; injection this with this; cases this
  obtain ⟨M3, h3, hu3, hk3⟩ := hds2.take hu2
  rw [h3, OP_some, (o82.keepI hk3).ld (o := 0) rfl, OP_some]
  exact ⟨rfl, hQ _ hu3⟩

theorem L3_loop {M0 : Store} {b8 : Nat} {x69 : Value} {xs : List (List UInt8)} (hxs : ∀ x ∈ xs, x.length ≤ 2 ^ 24) (h0 : M0.n ≤ b8) (hxl : xs.length ≤ 100) {Q : Value → Store → Prop} (hQ : ∀ M', Up M0 M' → Q (.bool true) M') :
    ∀ (k i : Nat) (ds : List Deferred) (M : Store), k + i = xs.length → Up M0 M → Ob M b8 [.bool false] Ty.bool → Ls B Ty.sl_uint8 M x69 xs → Dfs M0 ds M →
    P_fettlelaw3_FramTells_2 ds (.pointer (some ⟨b8, 0, none⟩)) x69 (.int .i64 (xs.length : Int)) (.int .i64 (i : Int)) M Q := by
  intro k
  induction k with
  | zero =>
    intro i ds M hi hu o8 hls hds
    apply T_fettlelaw3_FramTells_2
    unfold S_fettlelaw3_FramTells_2
    simp (disch := omega) only [ev, if_neg]
    exact L3_end hu h0 o8 hds hQ
  | succ k ih =>
    intro i ds M hi hu o8 hls hds
    apply T_fettlelaw3_FramTells_2
    unfold S_fettlelaw3_FramTells_2
    simp (disch := omega) only [ev, if_pos]
    apply T_fettlelaw3_FramTells_3
    unfold S_fettlelaw3_FramTells_3
    obtain ⟨p, q, p1, p2, p3⟩ := hls.at (i := i) (by omega) .i64
    have hxl := hxs _ (List.getElem_mem (show i < xs.length by omega))
    generalize hl : xs[i]'(by omega) = l at *
    rw [p1, OP_some, p2, OP_some]
    refine (Scan_ok p3 hxl).mono fun r1 M1 ⟨hu1, w1, hr1, hw1⟩ => ?_
    subst hr1
    have t0 : ∀ w : Value, (#[w, Value.int .i64 ((flen (scanF l) : Nat) : Int)])[0]? = some w := fun _ => rfl
    have t1 : ∀ w : Value, (#[w, Value.int .i64 ((flen (scanF l) : Nat) : Int)])[1]? = some (.int .i64 ((flen (scanF l) : Nat) : Int)) := fun _ => rfl
    simp only [e_tup, t0, t1, OP_some]
    refine (RScan_ok (Sl.up p3 hu1) hxl).mono fun r2 M2 ⟨hu2, w2, hr2, hw2⟩ => ?_
    subst hr2
    simp only [e_tup, t0, t1, OP_some, LT_eq]
    have u3 := Up.push M2 (some (.inl ([.slice none 0 0], Ty.sl_sl_uint8, true)))
    have b16 := Ob.new M2 [.slice none 0 0] Ty.sl_sl_uint8
    have n3 : (M2.push (some (.inl ([.slice none 0 0], Ty.sl_sl_uint8, true)))).n = M2.n + 1 := rfl
    generalize M2.push (some (.inl ([.slice none 0 0], Ty.sl_sl_uint8, true))) = M3 at *
    obtain ⟨a2, c2, rfl⟩ := ls_nts hw2.ls
    rw [b16.st (o := 0) (by simp) rfl rfl, OP_some]
    have c4 := Ch.setO b16 (some (.inl ([Value.slice none 0 0].set 0 (.slice a2 (scanF l).length c2), Ty.sl_sl_uint8, true)))
    have b164 := b16.setSt ([Value.slice none 0 0].set 0 (.slice a2 (scanF l).length c2))
    have n4 : (M3.set M2.n (some (.inl ([Value.slice none 0 0].set 0 (.slice a2 (scanF l).length c2), Ty.sl_sl_uint8, true)))).n = M3.n := by simp
    generalize M3.set M2.n (some (.inl ([Value.slice none 0 0].set 0 (.slice a2 (scanF l).length c2), Ty.sl_sl_uint8, true))) = M4 at *
    have u24 : Up M2 M4 := u3.ch c4 fun c hc => by simp at hc; omega
    have uM4 : Up M M4 := (hu1.trans hu2).trans u24
    rw [e_neq, BR_dec, if_neg (by simp), b164.ld (o := 0) rfl, OP_some]
    have hw24 : Ls B Ty.sl_uint8 M4 (.slice a2 (scanF l).length c2) (scanF l) := (NLs.up By.up' hw2 u24).ls
    have hw14 : Ls B Ty.sl_uint8 M4 w1 (scanF l) := (NLs.up By.up' (NLs.up By.up' hw1 hu2) u24).ls
    have hcnt := scanF_count l
    refine (Same_ok hw14 hw24 (by omega) (by omega)).mono fun v5 M5 ⟨hM5, hv5⟩ => ?_
    subst hM5; subst hv5
    rw [e_not, decide_eq_true rfl]
    simp only [Bool.not_true, BR_false]
    have u6 := Up.push M5 (some (.inl ([.int .i64 0], Ty.int, true)))
    have b18 := Ob.new M5 [.int .i64 0] Ty.int
    have n6 : (M5.push (some (.inl ([.int .i64 0], Ty.int, true)))).n = M5.n + 1 := rfl
    generalize M5.push (some (.inl ([.int .i64 0], Ty.int, true))) = M6 at *
    have u7 := Up.push M6 (some (.inl ([.int .i64 0], Ty.int, true)))
    have b19 := Ob.new M6 [.int .i64 0] Ty.int
    have n7 : (M6.push (some (.inl ([.int .i64 0], Ty.int, true)))).n = M6.n + 1 := rfl
    generalize M6.push (some (.inl ([.int .i64 0], Ty.int, true))) = M7 at *
    have b187 := b18.up u7
    rw [b187.st (o := 0) (by simp) rfl rfl, OP_some]
    have c8 := Ch.setO b187 (some (.inl ([Value.int .i64 0].set 0 (.int .i64 0), Ty.int, true)))
    have b188 := b187.setSt ([Value.int .i64 0].set 0 (.int .i64 0))
    have g8 : ∀ j, j ≠ M5.n → (M7.set M5.n (some (.inl ([Value.int .i64 0].set 0 (.int .i64 0), Ty.int, true)))).get j = M7.get j := fun j hj => Store.get_set_ne _ _ (Ne.symm hj)
    have n8 : (M7.set M5.n (some (.inl ([Value.int .i64 0].set 0 (.int .i64 0), Ty.int, true)))).n = M7.n := by simp
    generalize M7.set M5.n (some (.inl ([Value.int .i64 0].set 0 (.int .i64 0), Ty.int, true))) = M8 at *
    have b198 := b19.same (g8 M6.n (by omega))
    rw [b198.st (o := 0) (by simp) rfl rfl, OP_some]
    have c9 := Ch.setO b198 (some (.inl ([Value.int .i64 0].set 0 (.int .i64 0), Ty.int, true)))
    have b199 := b198.setSt ([Value.int .i64 0].set 0 (.int .i64 0))
    have g9 : ∀ j, j ≠ M6.n → (M8.set M6.n (some (.inl ([Value.int .i64 0].set 0 (.int .i64 0), Ty.int, true)))).get j = M8.get j := fun j hj => Store.get_set_ne _ _ (Ne.symm hj)
    have n9 : (M8.set M6.n (some (.inl ([Value.int .i64 0].set 0 (.int .i64 0), Ty.int, true)))).n = M8.n := by simp
    generalize M8.set M6.n (some (.inl ([Value.int .i64 0].set 0 (.int .i64 0), Ty.int, true))) = M9 at *
    have b189 := b188.same (g9 M5.n (by omega))
    have u59 : Up M5 M9 := Up.ch (Up.ch (u6.trans u7) c8 fun c hc => by simp at hc; omega) c9 fun c hc => by simp at hc; omega
    have uM9 : Up M M9 := uM4.trans u59
    refine (All_ok (Sl.up p3 uM9) hxl).mono fun r10 M10 ⟨hu10, b, w, hr10, hbn, hob, hby⟩ => ?_
    subst hr10
    rw [func_nil _ seq2_t]
    simp only [BR_false]
    have u510 : Up M5 M10 := u59.trans hu10
    have uM10 : Up M M10 := uM9.trans hu10
    have hle10 := hu10.n
    have hle5 := uM4.n
    have hle0 := hu.n
    have hl24 : M2.n ≤ M5.n := u24.n
    have hlM2 : M.n ≤ M2.n := (hu1.trans hu2).n
    have h8lt := o8.lt
    have hJ0 : FJ M0 b8 M2.n M5.n M6.n (.slice a2 (scanF l).length c2) l [] M10 :=
      ⟨o8.up uM10, b164.up u510, b189.up hu10, b199.up hu10, hw24.up By.up' u510⟩
    apply T_fettlelaw3_FramTells_5
    unfold S_fettlelaw3_FramTells_5
    intro rc hRC
    have hst : rc.st = .ready ∧ rc.pe = 0 := by obtain ⟨f, _, _, _, _, rfl⟩ := hRC; exact ⟨rfl, rfl⟩
    refine range_all (M0 := M) (w := w) (l := l) (rc := rc) hxl uM10 hob hby [M5.n, M6.n] ?_ (fun d N => FJ M0 b8 M2.n M5.n M6.n (.slice a2 (scanF l).length c2) l d N) hJ0 ?_ ?_ ?_ ?_
    · intro s hs
      simp only [List.mem_cons, List.not_mem_nil, or_false] at hs
      rcases hs with rfl | rfl
      · exact ⟨by omega, by omega, by omega⟩
      · exact ⟨by omega, by omega, by omega⟩
    · intro d N N' h k; exact ⟨h.o8.up k, h.o16.up k, h.o18.up k, h.o19.up k, h.m.up By.up' k⟩
    · intro d N h s hs
      simp only [List.mem_cons, List.not_mem_nil, or_false] at hs
      rcases hs with rfl | rfl
      · exact ⟨_, _, h.o18, ne3⟩
      · exact ⟨_, _, h.o19, ne3⟩
    · intro d a N x u hI huN ha hal hall hx hrc
      exact L3_round (M0 := M0) hxl hRC hrc ⟨by omega, by omega, by omega, by omega⟩ ⟨by omega, by omega, by omega, by omega, by omega⟩ hI hx ha hall
    · intro N huN hI hrc hdf
      rw [hrc.of, OP_some]
      refine ⟨by rw [hst.1]; decide, ?_⟩
      rw [hst.2]
      show P_fettlelaw3_FramTells_7 _ _ _ _ _ _ _ _ _
      have k7 := hrc.keepI { rc with st := .exhausted }
      have c7 := hrc.ch { rc with st := .exhausted }
      have d7 : (putRec N (M10.n + 1) { rc with st := .exhausted }).get M10.n = some (.inr (.inr none)) := by
        have : (putRec N (M10.n + 1) { rc with st := .exhausted }).get M10.n = N.get M10.n := Store.get_set_ne _ _ (by omega)
        rw [this, hdf]
      rw [hst.2] at c7 d7 k7
      generalize putRec N (M10.n + 1) { st := .exhausted, pe := 0, tmps := rc.tmps, params := rc.params, assign := rc.assign, body := rc.body } = N1 at *
      have huN1 : Up M N1 := huN.ch c7 fun c hc => by simp at hc; have := uM10.n; omega
      apply T_fettlelaw3_FramTells_7
      unfold S_fettlelaw3_FramTells_7
      rw [(hI.o18.keepI k7).ld (o := 0) rfl, OP_some, (hI.o16.keepI k7).ld (o := 0) rfl, OP_some, e_lenV, e_neq, BR_dec, if_neg (by simp)]
      apply T_fettlelaw3_FramTells_8
      unfold S_fettlelaw3_FramTells_8
      rw [e_add, w64 (by omega) (by omega)]
      refine ih (i + 1) _ N1 (by omega) (hu.trans huN1) (o8.up huN1) (hls.up By.up' huN1) ((hds.up huN1).cons d7 (by have := uM10.n; omega) fun k hk => ?_)
      have := hds.lt hk
      have := uM10.n
      omega

end Go.G
