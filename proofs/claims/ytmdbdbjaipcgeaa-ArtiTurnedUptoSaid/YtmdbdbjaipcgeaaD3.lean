/- Layer 3: what the document fixes, and frames told. -/
import Derived.Test.YtmdbdbjaipcgeaaGA
import Derived.Test.YtmdbdbjaipcgeaaC9
namespace Go.G
open Go.Ab Go.Proofs Go.RowKit
set_option linter.unusedVariables false
set_option linter.unusedSimpArgs false
set_option maxRecDepth 100000

/-- Bytes that are told to be bytes. -/
theorem conv_ok {M0 M : Store} (hu : Up M0 M) {v : Value} {l : List UInt8} (h : N M0 M v l) (hl : l ≠ []) {K : Value → Store → Prop} (hK : ∀ M', Up M0 M' → N M0 M' v l → KeepI M M' → K v M') : OP2 (cvId v M) K := by
  have hne : 0 < l.length := by cases l with | nil => exact absurd rfl hl | cons => simp
  obtain ⟨h1, ⟨h0, _⟩ | ⟨b, cells, c, rfl, h2, h3, h4, h5, h6⟩⟩ := h
  · omega
  · have e : cvId (.slice (some ⟨b, 0, none⟩) l.length c) M = some (.slice (some ⟨b, 0, none⟩) l.length c, M.set b (some (.inl (cells, Ty.uint8, true)))) := by
      simp only [cvId, h3]
      rw [if_pos hne]
    rw [e, OP2_some]
    have hob : Ob M b cells Ty.uint8 := h3
    have hk : KeepI M (M.set b (some (.inl (cells, Ty.uint8, true)))) := ⟨by simp, fun i x hi => by
      by_cases ei : i = b
      · subst ei; rw [Store.get_set_eq _ _ h3, ← h3, hi]
      · rw [Store.get_set_ne _ _ (Ne.symm ei), hi]⟩
    exact hK _ (hu.ch (Ch.setO hob _) fun c hc => by simp at hc; omega) ⟨h1, .inr ⟨b, cells, c, rfl, h2, Store.get_set_eq _ _ h3, h4, h5, h6⟩⟩ hk

theorem func_nil (t : TypeId) (ht : ∃ a b c, Try.prog.underlying t = some (.func a b c)) (f : Fn) (x y : Array Value) (K : Value → Prop) : OP (abin Try.prog true .eql t (.func f x y) .nilFunc) K = K (.bool false) := by
  obtain ⟨a, b, c, ht⟩ := ht
  have : abin Try.prog true .eql t (.func f x y) .nilFunc = some (.bool false) := by
    simp [abin, aeq, ht]
  rw [this]; rfl
theorem seq2_t : ∃ a b c, Try.prog.underlying Ty.iter_Seq2_int_sl_uint8 = some (.func a b c) := ⟨_, _, _, U.iter_Seq2_int_sl_uint8⟩

/-- Where each begins, and how long it is: the sum. -/
def asum (d : List (List UInt8)) : Nat := (d.foldl (fun (p : Nat × Nat) x => (p.1 + p.2 + x.length, p.2 + (x.length + 10))) (0, 0)).1
theorem asum_snoc (d : List (List UInt8)) (x : List UInt8) : asum (d ++ [x]) = asum d + flen d + x.length := by
  have : ∀ (d : List (List UInt8)) (a b : Nat), (d.foldl (fun (p : Nat × Nat) x => (p.1 + p.2 + x.length, p.2 + (x.length + 10))) (a, b)).2 = b + flen d := by
    intro d
    induction d with
    | nil => intro a b; rfl
    | cons y d ih => intro a b; rw [List.foldl_cons, ih]; simp [flen]; omega
  simp only [asum, List.foldl_append, List.foldl_cons, List.foldl_nil, this]
  simp

theorem awake3_round {m b4 : Nat} {rc : LRec} {d : List (List UInt8)} {a : Nat} {N : Store} {x : List UInt8} {u : Value} (hRC : RC_fettlelaw3_awake_1 (.pointer (some ⟨b4, 0, none⟩)) .ready 0 rc) (hrc : Rc N (m + 1) rc) (hne : b4 ≠ m + 1)
    (hb : Ob N b4 [.int .i64 (asum d : Nat)] Ty.int) (hx : B N u x) (ha : a = flen d) (hs : asum d ≤ 2 ^ 40) (hf : flen d ≤ 2 ^ 24) (hl : x.length ≤ 2 ^ 24) :
    RunsY Try.prog Ex (m + 1) #[.int .i64 (a : Int), u] N fun v N' => v = .bool true ∧ Ob N' b4 [.int .i64 (asum (d ++ [x]) : Nat)] Ty.int ∧ Rc N' (m + 1) rc ∧ Ch [m + 1, b4] N N' := by
  refine Y_fettlelaw3_awake_1 hrc.of hRC ?_
  unfold SY_fettlelaw3_awake_1
  have hst : rc.st = .ready ∧ rc.pe = 0 := by obtain ⟨f, _, rfl⟩ := hRC; exact ⟨rfl, rfl⟩
  rw [hrc.of, OP_some]
  refine ⟨hst.1, ?_⟩
  have hk1 := hrc.keepI { rc with st := .busy }
  have hc1 := hrc.ch { rc with st := .busy }
  have hrc1 := hrc.put { rc with st := .busy }
  generalize putRec N (m + 1) { rc with st := .busy } = N1 at *
  apply T_fettlelaw3_awake_2
  unfold S_fettlelaw3_awake_2
  have hb1 := hb.keepI hk1
  rw [hb1.ld (o := 0) rfl, OP_some, hx.lenV]
  simp only [ev]
  have e1 : IntKind.wrap .i64 (IntKind.wrap .i64 (((asum d : Nat) : Int) + (a : Int)) + (x.length : Int)) = ((asum (d ++ [x]) : Nat) : Int) := by
    rw [w64 (x := ((asum d : Nat) : Int) + (a : Int)) (by omega) (by omega), w64 (by omega) (by omega), asum_snoc]; omega
  rw [e1, hb1.st (o := 0) (by simp) rfl rfl, OP_some]
  have hc2 := Ch.setO hb1 (some (.inl ([Value.int .i64 (asum d : Nat)].set 0 (.int .i64 (asum (d ++ [x]) : Nat)), Ty.int, true)))
  have hb2 := hb1.setSt ([Value.int .i64 (asum d : Nat)].set 0 (.int .i64 (asum (d ++ [x]) : Nat)))
  have hg2 : ∀ i, i ≠ b4 → (N1.set b4 (some (.inl ([Value.int .i64 (asum d : Nat)].set 0 (.int .i64 (asum (d ++ [x]) : Nat)), Ty.int, true)))).get i = N1.get i := fun i hi => Store.get_set_ne _ _ (Ne.symm hi)
  generalize N1.set b4 (some (.inl ([Value.int .i64 (asum d : Nat)].set 0 (.int .i64 (asum (d ++ [x]) : Nat)), Ty.int, true))) = N2 at *
  have hrc2 : Rc N2 (m + 1) { rc with st := .busy } := by unfold Rc; rw [hg2 _ (Ne.symm hne)]; exact hrc1
  unfold YE
  rw [hrc2.of, OP_some]
  have hk3 := hrc2.keepI { rc with st := bif Nat.beq 0 0 then .ready else .done, pe := 0 }
  have hc3 := hrc2.ch { rc with st := bif Nat.beq 0 0 then .ready else .done, pe := 0 }
  have hrc3 := hrc2.put { rc with st := bif Nat.beq 0 0 then .ready else .done, pe := 0 }
  have hrce : { rc with st := bif Nat.beq 0 0 then .ready else .done, pe := 0 } = rc := by
    obtain ⟨s, p, t, ps, asg, bd⟩ := rc; simp only at hst; obtain ⟨rfl, rfl⟩ := hst; rfl
  refine ⟨rfl, hb2.keepI hk3, by rw [← hrce]; exact hrc3, ?_⟩
  exact ((hc1.mono (by simp)).trans (hc2.mono (by simp))).trans (hc3.mono (by simp))

theorem awake3_ok (M : Store) : R F.fettlelaw3_awake #[] M fun v M' => Up M M' ∧ v = .bool true := by
  refine R.cps fun Q hQ => ?_
  apply T_fettlelaw3_awake
  unfold S_fettlelaw3_awake
  have e97 : (.int .u8 97 : Value) = bv 97 := rfl
  rw [e_lit1]
  simp only [LT_eq]
  rw [e97]
  have hN1 : N M (M.push (some (.inl ([bv 97], Ty.uint8, true)))) (.slice (some ⟨M.n, 0, none⟩) 1 1) [97] := Nw.lit (n := 1) (Nat.le_refl _) rfl
  refine conv_ok (Up.push M _) hN1 (by simp) fun M2 hu2 h2 _ => ?_
  refine (Put_ok (l := []) (Sl.nil _ _ _) h2.by (by simp) (by simp)).mono fun v3 M3 ⟨hu3, h3⟩ => ?_
  rw [List.nil_append] at h3
  have hf1 := frm_length [97]
  refine (Put_ok (k := []) h3.by (Sl.nil _ _ _) (by rw [hf1]; simp) (by simp)).mono fun v4 M4 ⟨hu4, h4⟩ => ?_
  have hf0 := frm_length []
  have hL : (frm [97] ++ frm []).length = 21 := by rw [List.length_append, hf1, hf0]; rfl
  rw [e_lit0]
  refine copy0 h4.by (by rw [hL]; simp) fun v5 M5 hu5 h5 => ?_
  have e3 : ∀ K : List Value → Prop, OP (bldL (.int .u8 0) 1 3 [(0, (.int .u8 1)), (1, (.int .u8 2)), (2, (.int .u8 3))]) K = K [bv 1, bv 2, bv 3] := fun K => by kernel_rfl
  rw [e3]
  have h6 : N M4 (M5.push (some (.inl ([bv 1, bv 2, bv 3], Ty.uint8, true)))) (.slice (some ⟨M5.n, 0, none⟩) 3 3) [1, 2, 3] := Nw.lit (n := 3) hu5.le rfl
  obtain ⟨v7, M7, e7, hu7, h7, _⟩ := NB.app (hu5.push' _) (Nw.up h5 (Up.push M5 _)) h6.by (by rw [hL]; simp)
  rw [e7, OP2_some]
  refine (Scan_ok h7.by (by rw [List.length_append, hL]; simp)).mono fun r M8 ⟨hu8, w8, hr8, h8⟩ => ?_
  subst hr8
  have hs : scanF (frm [97] ++ frm [] ++ [1, 2, 3]) = [[97], []] := by
    rw [List.append_assoc, scanF_frm _ _ (by simp), scanF_frm _ _ (by simp), scanF_short _ (by simp)]
  rw [hs] at h8
  rw [hs]
  have t0 : (#[w8, Value.int .i64 ((flen [[97], []] : Nat) : Int)])[0]? = some w8 := rfl
  have t1 : (#[w8, Value.int .i64 ((flen [[97], []] : Nat) : Int)])[1]? = some (.int .i64 ((flen [[97], []] : Nat) : Int)) := rfl
  simp only [e_tup, t0, t1, ev]
  have ob9 := Ob.new M8 [.int .i64 0] Ty.int
  have u9 := Up.push M8 (some (.inl ([.int .i64 0], Ty.int, true)))
  have n9 : (M8.push (some (.inl ([.int .i64 0], Ty.int, true)))).n = M8.n + 1 := rfl
  generalize M8.push (some (.inl ([.int .i64 0], Ty.int, true))) = M9 at *
  rw [ob9.st (o := 0) (by simp) rfl rfl, OP_some]
  have c10 := Ch.setO ob9 (some (.inl ([Value.int .i64 0].set 0 (.int .i64 0), Ty.int, true)))
  have ob10 := ob9.setSt ([Value.int .i64 0].set 0 (.int .i64 0))
  have n10 : (M9.set M8.n (some (.inl ([Value.int .i64 0].set 0 (.int .i64 0), Ty.int, true)))).n = M9.n := by simp
  generalize M9.set M8.n (some (.inl ([Value.int .i64 0].set 0 (.int .i64 0), Ty.int, true))) = M10 at *
  have u810 : Up M8 M10 := u9.ch c10 fun c hc => by simp at hc; omega
  have huM8 : Up M M8 := ((hu2.trans (hu3.trans hu4)).trans hu7).trans hu8
  have h4' : B M10 v4 (frm [97] ++ frm []) := Sl.up (Sl.up (Sl.up h4.by hu7) hu8) u810
  refine (All_ok h4' (by rw [hL]; simp)).mono fun r11 M11 ⟨hu11, b, w, hr11, hbn, hob, hby⟩ => ?_
  subst hr11
  rw [func_nil _ seq2_t]
  simp only [ev]
  apply T_fettlelaw3_awake_1
  unfold S_fettlelaw3_awake_1
  intro rc hRC
  have hst : rc.st = .ready ∧ rc.pe = 0 := by obtain ⟨f, _, rfl⟩ := hRC; exact ⟨rfl, rfl⟩
  have hle := hu11.n
  have hs2 : scanF (frm [97] ++ frm []) = [[97], []] := by
    have := scanF_frm [] [] (by simp)
    rw [List.append_nil] at this
    rw [scanF_frm _ _ (by simp), this, scanF_short _ (by simp)]
  refine range_all (M0 := M8) (w := w) (l := frm [97] ++ frm []) (rc := rc) (by rw [hL]; simp) (u810.trans hu11) hob hby [M8.n] ?_ (fun d N => Ob N M8.n [.int .i64 (asum d : Nat)] Ty.int) (ob10.up hu11) ?_ ?_ ?_ ?_
  · intro s hs; simp at hs; subst hs; exact ⟨Nat.le_refl _, by omega, by omega⟩
  · intro d N N' h k; exact h.up k
  · intro d N h s hs; simp at hs; subst hs; exact ⟨_, _, h, ne3⟩
  · intro d a N x u hI hu ha hal hall hx hrc
    have hd : d.length ≤ 2 := by have := congrArg List.length hall; rw [hs2] at this; simp at this; omega
    have hfl : flen d ≤ 21 := by
      have h1 : flen (d ++ x :: scanF ((frm [97] ++ frm []).drop (a + (x.length + 10)))) = 21 := by rw [hall, hs2]; rfl
      rw [flen_append] at h1; omega
    have hxl : x.length ≤ 21 := by rw [hL] at hal; omega
    have hasum : asum d ≤ 2 ^ 40 := by
      rw [hs2] at hall
      match d, hall with
      | [], _ => simp [asum]
      | [y], h => simp only [List.cons_append, List.cons.injEq] at h; obtain ⟨rfl, _⟩ := h; simp [asum]
      | [y, z], h => simp at h
    exact awake3_round hRC hrc (by omega) hI hx ha hasum (by omega) (by omega)
  · intro N huN hI hrc hdf
    rw [hrc.of, OP_some]
    refine ⟨by rw [hst.1]; decide, ?_⟩
    rw [hst.2]
    show P_fettlelaw3_awake_3 _ _ _ _ _ _ _
    have k7 := hrc.keepI { rc with st := .exhausted }
    have c7 := hrc.ch { rc with st := .exhausted }
    have d7 : (putRec N (M11.n + 1) { rc with st := .exhausted }).get M11.n = some (.inr (.inr none)) := by
      have : (putRec N (M11.n + 1) { rc with st := .exhausted }).get M11.n = N.get M11.n := Store.get_set_ne _ _ (by omega)
      rw [this, hdf]
    rw [hst.2] at c7 d7 k7
    generalize putRec N (M11.n + 1) { st := .exhausted, pe := 0, tmps := rc.tmps, params := rc.params, assign := rc.assign, body := rc.body } = N1 at *
    have huN1 : Up M8 N1 := huN.ch c7 fun c hc => by simp at hc; omega
    apply T_fettlelaw3_awake_3
    unfold S_fettlelaw3_awake_3
    have h4N : B N1 v4 (frm [97] ++ frm []) := Sl.up (Sl.up (Sl.up h4.by hu7) hu8) huN1
    have h8N : Ls B Ty.sl_uint8 N1 w8 [[97], []] := (NLs.up By.up' h8 huN1).ls
    rw [hs2] at hI
    have hIN := hI.keepI k7
    obtain ⟨p0, q0, a0, b0, g0⟩ := h8N.at (i := 0) (by simp) .i64
    obtain ⟨p1, q1, a1, b1, g1⟩ := h8N.at (i := 1) (by simp) .i64
    have a0' : ixA 1 w8 (.int .i64 0) = some p0 := a0
    have a1' : ixA 1 w8 (.int .i64 1) = some p1 := a1
    have e0 : cvBS q0 N1 = some (.string ⟨#[97]⟩) := cvBS_ok g0
    have es : ∀ K : Value → Prop, OP (binS .eql (.string ⟨#[97]⟩) (.string ⟨#[97]⟩)) K = K (.bool true) := fun K => by
      have := str_eql [97] [97] K
      simpa using this
    have f21 : ((flen [[97], []] : Nat) : Int) = 21 := rfl
    have f12 : ((asum [[97], []] : Nat) : Int) = 12 := rfl
    rw [f12] at hIN
    have ht : atake [{ target := .collected M11.n, args := #[] }] N1 = some (N1.set M11.n none) := by simp [atake, d7]
    rw [h4N.lenV, hL, h8N.lenV, f21]
    have c21 : ((21 : Nat) : Int) = 21 := rfl
    have c2 : (([[97], []] : List (List UInt8)).length : Int) = 2 := rfl
    simp only [ev, c21, c2, decide_true, a0', b0, e0, es, a1', b1, g1.lenV, hIN.ld (o := 0) rfl, ht]
    have cn : ((([[97], []] : List (List UInt8))[1]).length : Int) = 0 := rfl
    rw [if_pos (show ((([[97], []] : List (List UInt8))[1]).length : Int) = 0 from rfl)]
    refine ⟨rfl, hQ _ _ ⟨?_, rfl⟩⟩
    exact Up.ch (huM8.trans huN1) (Ch.set d7 _) fun c hc => by simp at hc; have := huM8.n; omega

end Go.G
