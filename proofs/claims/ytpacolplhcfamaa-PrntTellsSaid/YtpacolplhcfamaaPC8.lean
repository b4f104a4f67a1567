/- Frames gone through, and all of them. -/
import Derived.Test.YtpacolplhcfamaaPGA
import Derived.Test.YtpacolplhcfamaaPC7
namespace Go.G
open Go.Ab Go.Proofs Go.RowKit
set_option linter.unusedVariables false
set_option linter.unusedSimpArgs false

theorem KC_func (g : FuncId) (first cap : Array Value) (args : List Value) (M : Store) (K : Value → Store → Prop) : KC (.func (.func g) first cap) args M K = R g (first.toList ++ (args ++ cap.toList)).toArray M K := rfl
theorem KC_yield (l : Nat) (cap : Array Value) (args : List Value) (M : Store) (K : Value → Store → Prop) : KC (.func (.yield l) #[] cap) args M K = RunsY Try.prog Ex l args.toArray M K := rfl

theorem All_ok {M : Store} {v : Value} {l : List UInt8} (h : B M v l) (hl : l.length ≤ 2 ^ 24) :
    R F.fram_All #[v] M fun r M' => Up M M' ∧ ∃ b w, r = .func (.func F.fram_All_c1) #[] #[.pointer (some ⟨b, 0, none⟩)] ∧ M.n ≤ b ∧ Ob M' b [w] Ty.sl_uint8 ∧ B M' w l := by
  refine R.cps fun Q hQ => ?_
  apply T_fram_All
  unfold S_fram_All
  obtain ⟨a, c, rfl⟩ := h.slice
  have e1 : boxv (.slice a l.length c) = some [.slice a l.length c] := by kernel_rfl
  simp only [e1, ev]
  have hup := Up.push M (some (.inl ([.slice a l.length c], Ty.sl_uint8, true)))
  have hob := Ob.new M [.slice a l.length c] Ty.sl_uint8
  rw [hob.ld (o := 0) rfl, OP_some]
  refine (Clone_ok (Sl.up h hup) hl).mono fun v2 M2 ⟨hu2, h2⟩ => ?_
  have hob2 := hob.up hu2
  obtain ⟨a2, c2, rfl⟩ := h2.sl.slice
  rw [hob2.st (o := 0) (by simp) rfl rfl, OP_some]
  have e2 : mkF (.func F.fram_All_c1) [] [.pointer (some ⟨M.n, 0, none⟩)] = some (.func (.func F.fram_All_c1) #[] #[.pointer (some ⟨M.n, 0, none⟩)]) := rfl
  rw [e2, OP_some]
  refine ⟨rfl, hQ _ _ ⟨Up.ch (hup.trans hu2) (Ch.setO hob2 _) (fun b hb => by simp at hb; omega), M.n, _, rfl, Nat.le_refl _, hob2.setSt _, ?_⟩⟩
  exact B.set hob2 ne_bb _ h2.by

/-- Frames are handed over one by one: what holds before each, and what holds when one leaves. -/
theorem Allc1_loop {L b : Nat} {w : Value} {l : List UInt8} (hl : l.length ≤ 2 ^ 24) (J : Nat → List (List UInt8) → Store → Prop) (Stop : Store → Prop) {Q : Value → Store → Prop}
    (hup : ∀ a d M M', J a d M → Up M M' → J a d M') (hmem : ∀ a d M, J a d M → Ob M b [w] Ty.sl_uint8 ∧ B M w l)
    (hround : ∀ a d M x u, J a d M → oneF (l.drop a) = some x → a + (x.length + 10) ≤ l.length → B M u x → RunsY Try.prog Ex L #[.int .i64 (a : Int), u] M fun v M' => (v = .bool true ∧ J (a + (x.length + 10)) (d ++ [x]) M') ∨ (v = .bool false ∧ Stop M'))
    (hend : ∀ a d M, J a d M → oneF (l.drop a) = none → Q (.tuple #[]) M) (hstop : ∀ M, Stop M → Q (.tuple #[]) M) :
    ∀ (k a : Nat) (d : List (List UInt8)) (M : Store), l.length - a < k → a ≤ l.length → J a d M → P_fram_All_c1_1 (.func (.yield L) #[] #[]) (.pointer (some ⟨b, 0, none⟩)) (.int .i64 (a : Int)) M Q := by
  intro k
  induction k with
  | zero => intro a d M hk; omega
  | succ k ih =>
    intro a d M hk ha hJ
    apply T_fram_All_c1_1
    unfold S_fram_All_c1_1
    obtain ⟨hob, hw⟩ := hmem a d M hJ
    rw [hob.ld (o := 0) rfl, OP_some]
    obtain ⟨u, e1, hu⟩ := By.cut hw (lo := some (.int .i64 (a : Int))) (hi := none) (a := a) (r := l.length) rfl (abound_nat ha) (Nat.le_refl _) ha
    rw [List.take_length] at hu
    rw [e1, OP_some]
    have hdl : (l.drop a).length = l.length - a := List.length_drop
    refine (one_ok hu (by omega)).mono fun r M1 ⟨hu1, h1⟩ => ?_
    have hJ1 := hup _ _ _ _ hJ hu1
    cases ho : oneF (l.drop a) with
    | none =>
      rw [ho] at h1
      rw [h1]
      simp only [e_tup]
      exact ⟨rfl, hend _ _ _ hJ1 ho⟩
    | some x =>
      rw [ho] at h1
      obtain ⟨ux, h1, hx, _⟩ := h1
      have hlen := oneF_len ho
      rw [h1]
      simp only [e_tup]
      have t0 : (#[ux, Value.int .i64 ((x.length + 10 : Nat) : Int), Value.bool true])[0]? = some ux := rfl
      have t1 : (#[ux, Value.int .i64 ((x.length + 10 : Nat) : Int), Value.bool true])[1]? = some (.int .i64 ((x.length + 10 : Nat) : Int)) := rfl
      have t2 : (#[ux, Value.int .i64 ((x.length + 10 : Nat) : Int), Value.bool true])[2]? = some (.bool true) := rfl
      simp only [t0, t1, t2, ev, Bool.not_true]
      rw [KC_yield]
      refine (hround a d M1 x ux hJ1 ho (by omega) hx).mono fun v2 M2 h2 => ?_
      rcases h2 with ⟨rfl, h2⟩ | ⟨rfl, h2⟩
      · simp only [ev, Bool.not_true]
        rw [w64 (by omega) (by omega)]
        exact ih (a + (x.length + 10)) (d ++ [x]) M2 (by omega) (by omega) h2
      · simp only [ev, Bool.not_false]
        exact ⟨rfl, hstop _ h2⟩

theorem Allc1_ok {L b : Nat} {w : Value} {l : List UInt8} (hl : l.length ≤ 2 ^ 24) (J : Nat → List (List UInt8) → Store → Prop) (Stop : Store → Prop) {Q : Value → Store → Prop} {M : Store} (h0 : J 0 [] M)
    (hup : ∀ a d M M', J a d M → Up M M' → J a d M') (hmem : ∀ a d M, J a d M → Ob M b [w] Ty.sl_uint8 ∧ B M w l)
    (hround : ∀ a d M x u, J a d M → oneF (l.drop a) = some x → a + (x.length + 10) ≤ l.length → B M u x → RunsY Try.prog Ex L #[.int .i64 (a : Int), u] M fun v M' => (v = .bool true ∧ J (a + (x.length + 10)) (d ++ [x]) M') ∨ (v = .bool false ∧ Stop M'))
    (hend : ∀ a d M, J a d M → oneF (l.drop a) = none → Q (.tuple #[]) M) (hstop : ∀ M, Stop M → Q (.tuple #[]) M) :
    R F.fram_All_c1 #[.func (.yield L) #[] #[], .pointer (some ⟨b, 0, none⟩)] M Q := by
  apply T_fram_All_c1
  unfold S_fram_All_c1
  exact Allc1_loop hl J Stop hup hmem hround hend hstop (l.length + 1) 0 [] M (by omega) (by omega) h0

theorem ClipBB_ok {M0 M : Store} {v : Value} {ll : List (List UInt8)} (h : NLs B Ty.sl_uint8 M0 M v ll) : R F.slices_Clip_sl_sl_byte_sl_byte #[v] M fun v' M' => M' = M ∧ NLs B Ty.sl_uint8 M0 M v' ll := by
  refine R.cps fun Q hQ => ?_
  obtain ⟨vs, h1, h2⟩ := h
  apply T_slices_Clip_sl_sl_byte_sl_byte
  obtain ⟨v', e, h'⟩ := slM_full h1
  unfold S_slices_Clip_sl_sl_byte_sl_byte
  rw [h1.sl.lenV]
  simp only [ev, e]
  exact ⟨nts_of h'.sl, hQ _ _ ⟨rfl, vs, h', h2⟩⟩

theorem By.keepI' (M M' : Store) (v : Value) (x : List UInt8) (h : B M v x) (k : KeepI M M') : B M' v x := Sl.keepI h k

theorem ne1 : Ty.sl_uint8 ≠ Ty.sl_sl_uint8 := by decide
theorem ne2 : Ty.uint8 ≠ Ty.sl_sl_uint8 := by decide
theorem ne3 : Ty.uint8 ≠ Ty.int := by decide
theorem ne4 : Ty.sl_uint8 ≠ Ty.int := by decide
theorem ne5 : Ty.sl_sl_uint8 ≠ Ty.int := by decide
theorem ne6 : Ty.int ≠ Ty.sl_sl_uint8 := by decide


/-- What holds before a round of Scan. -/
structure SJ (M0 Mb : Store) (m b4 b5 b : Nat) (w : Value) (l : List UInt8) (a : Nat) (d : List (List UInt8)) (M : Store) : Prop where
  up : Up M0 M
  nb : Mb.n ≤ M.n
  out : ∃ lw, Ob M b4 [lw] Ty.sl_sl_uint8 ∧ NLs B Ty.sl_uint8 Mb M lw d
  end_ : Ob M b5 [.int .i64 (flen d : Nat)] Ty.int
  rc : ∃ rc, Rc M (m + 1) rc ∧ RC_fram_Scan_1 (.pointer (some ⟨b4, 0, none⟩)) (.pointer (some ⟨b5, 0, none⟩)) .ready 0 rc
  box : Ob M b [w] Ty.sl_uint8
  by_ : B M w l
  at_ : a = flen d
  all : d ++ scanF (l.drop a) = scanF l
  df : M.get m = some (.inr (.inr none))

theorem SJ.round {M0 Mb : Store} {m b4 b5 b : Nat} {w : Value} {l : List UInt8} (hl : l.length ≤ 2 ^ 24) (hm : Mb.n = m + 2) (h0 : M0.n ≤ b4 ∧ M0.n ≤ b5 ∧ M0.n ≤ m) (hlt : b4 < m ∧ b5 < m ∧ b < m) (hne : b4 ≠ b5 ∧ b4 ≠ b ∧ b5 ≠ b)
    {a : Nat} {d : List (List UInt8)} {M : Store} {x : List UInt8} {u : Value} (hJ : SJ M0 Mb m b4 b5 b w l a d M) (ho : oneF (l.drop a) = some x) (ha : a + (x.length + 10) ≤ l.length) (hu : B M u x) :
    RunsY Try.prog Ex (m + 1) #[.int .i64 (a : Int), u] M fun v M' => v = .bool true ∧ SJ M0 Mb m b4 b5 b w l (a + (x.length + 10)) (d ++ [x]) M' := by
  obtain ⟨hup, hnb, ⟨lw, hlw, hls⟩, hend, ⟨rc, hrc, hRC⟩, hbox, hby, hat, hall, hdf⟩ := hJ
  refine Y_fram_Scan_1 hrc.of hRC ?_
  unfold SY_fram_Scan_1
  rw [hrc.of, OP_some]
  have hst : rc.st = .ready := by obtain ⟨f, _, _, rfl⟩ := hRC; rfl
  refine ⟨hst, ?_⟩
  -- the record is busy
  have hk1 := hrc.keepI { rc with st := .busy }
  have hc1 := hrc.ch { rc with st := .busy }
  have hrc1 := hrc.put { rc with st := .busy }
  have hg1 : ∀ i, i ≠ m + 1 → (putRec M (m + 1) { rc with st := .busy }).get i = M.get i := fun i hi => Store.get_set_ne _ _ (Ne.symm hi)
  have hn1 : (putRec M (m + 1) { rc with st := .busy }).n = M.n := by simp [putRec]
  have hup1 : Up M0 (putRec M (m + 1) { rc with st := .busy }) := hup.ch hc1 fun c hc => by simp at hc; omega
  generalize putRec M (m + 1) { rc with st := .busy } = M1 at *
  apply T_fram_Scan_2
  unfold S_fram_Scan_2
  have hlw1 := hlw.keepI hk1
  have hu1 := hu.keepI hk1
  rw [hlw1.ld (o := 0) rfl, OP_some]
  obtain ⟨ua, uc, rfl⟩ := hu.slice
  simp only [ev, e_lit1s]
  have hcnt := scanF_count l
  have hd : d.length ≤ (scanF l).length := by rw [← hall]; simp
  have hfl : flen d ≤ flen (scanF l) := by rw [← hall, flen_append]; omega
  have hfl2 := scanF_flen l
  obtain ⟨lw2, M2, e2, hup2, hls2, hk2, hf2⟩ := NLs.app2 (By.keep' ne_bb) hup1 (by omega) (by omega) (hls.keepI By.keepI' hk1) hu1 (by omega)
  rw [e2, OP2_some]
  have hlw2 := hlw1.same (hf2 b4 (by omega))
  obtain ⟨a2, c2, rfl⟩ := ls_nts hls2.ls
  rw [hlw2.st (o := 0) (by simp) rfl rfl, OP_some]
  have hk3 := (Ch.setO hlw2 (some (.inl ([lw].set 0 (.slice a2 (d ++ [x]).length c2), Ty.sl_sl_uint8, true)))).keepT hlw2
  have hc3 := Ch.setO hlw2 (some (.inl ([lw].set 0 (.slice a2 (d ++ [x]).length c2), Ty.sl_sl_uint8, true)))
  have hlw3 := hlw2.setSt ([lw].set 0 (.slice a2 (d ++ [x]).length c2))
  have hg3 : ∀ i, i ≠ b4 → (M2.set b4 (some (.inl ([lw].set 0 (.slice a2 (d ++ [x]).length c2), Ty.sl_sl_uint8, true)))).get i = M2.get i := fun i hi => Store.get_set_ne _ _ (Ne.symm hi)
  have hn3 : (M2.set b4 (some (.inl ([lw].set 0 (.slice a2 (d ++ [x]).length c2), Ty.sl_sl_uint8, true)))).n = M2.n := by simp
  generalize M2.set b4 (some (.inl ([lw].set 0 (.slice a2 (d ++ [x]).length c2), Ty.sl_sl_uint8, true))) = M3 at *
  have hend3 : Ob M3 b5 [.int .i64 (flen d : Nat)] Ty.int := ((hend.keepI hk1).same (hf2 b5 (by omega))).same (hg3 b5 (Ne.symm hne.1))
  have i1 : IntKind.wrap .i64 (IntKind.wrap .i64 (IntKind.wrap .i64 ((a : Int) + 6) + (x.length : Int)) + 4) = ((flen (d ++ [x]) : Nat) : Int) := by
    rw [w64 (x := (a : Int) + 6) (by omega) (by omega), w64 (x := (a : Int) + 6 + x.length) (by omega) (by omega), w64 (by omega) (by omega), flen_append]
    simp [flen]
    simp only [flen] at hat
    omega
  rw [i1, hend3.st (o := 0) (by simp) rfl rfl, OP_some]
  have hk4 := (Ch.setO hend3 (some (.inl ([Value.int .i64 (flen d : Nat)].set 0 (.int .i64 (flen (d ++ [x]) : Nat)), Ty.int, true)))).keepT hend3
  have hc4 := Ch.setO hend3 (some (.inl ([Value.int .i64 (flen d : Nat)].set 0 (.int .i64 (flen (d ++ [x]) : Nat)), Ty.int, true)))
  have hend4 := hend3.setSt ([Value.int .i64 (flen d : Nat)].set 0 (.int .i64 (flen (d ++ [x]) : Nat)))
  have hg4 : ∀ i, i ≠ b5 → (M3.set b5 (some (.inl ([Value.int .i64 (flen d : Nat)].set 0 (.int .i64 (flen (d ++ [x]) : Nat)), Ty.int, true)))).get i = M3.get i := fun i hi => Store.get_set_ne _ _ (Ne.symm hi)
  have hn4 : (M3.set b5 (some (.inl ([Value.int .i64 (flen d : Nat)].set 0 (.int .i64 (flen (d ++ [x]) : Nat)), Ty.int, true)))).n = M3.n := by simp
  generalize M3.set b5 (some (.inl ([Value.int .i64 (flen d : Nat)].set 0 (.int .i64 (flen (d ++ [x]) : Nat)), Ty.int, true))) = M4 at *
  have hn2 : M1.n ≤ M2.n := hk2.1
  have hget : ∀ i, i < m + 2 → i ≠ b4 → i ≠ b5 → M4.get i = M1.get i := fun i hi h4 h5 => by rw [hg4 i h5, hg3 i h4, hf2 i (by omega)]
  have hrc4 : Rc M4 (m + 1) { rc with st := .busy } := by
    unfold Rc; rw [hget (m + 1) (by omega) (by omega) (by omega)]; exact hrc1
  unfold YE
  rw [hrc4.of, OP_some]
  have hk5 := hrc4.keepI { rc with st := bif Nat.beq 0 0 then .ready else .done, pe := 0 }
  have hc5 := hrc4.ch { rc with st := bif Nat.beq 0 0 then .ready else .done, pe := 0 }
  have hrc5 := hrc4.put { rc with st := bif Nat.beq 0 0 then .ready else .done, pe := 0 }
  refine ⟨rfl, ?_, ?_, ⟨.slice a2 (d ++ [x]).length c2, ?_, ?_⟩, ?_, ⟨_, hrc5, ?_⟩, ?_, ?_, ?_, ?_, ?_⟩
  · exact ((hup2.ch hc3 (fun c hc => by simp at hc; omega)).ch hc4 (fun c hc => by simp at hc; omega)).ch hc5 (fun c hc => by simp at hc; omega)
  · simp [putRec]; omega
  · exact (hlw3.same (hg4 b4 hne.1)).keepI hk5
  · refine NLs.keepI By.keepI' ?_ hk5
    exact NLs.keep (By.keep' ne3) (NLs.keep (By.keep' ne2) hls2 ne1 hk3) ne4 hk4
  · exact hend4.keepI hk5
  · obtain ⟨f, f4, f5, rfl⟩ := hRC
    exact ⟨f, f4, f5, rfl⟩
  · exact (hbox.keepI hk1).same (hget b (by omega) (Ne.symm hne.2.1) (Ne.symm hne.2.2)) |>.keepI hk5
  · exact ((((hby.keepI hk1).keep ne_bb hk2).keep ne2 hk3).keep ne3 hk4).keepI hk5
  · rw [flen_append, ← hat]; simp [flen]
  · rw [← hall, scanF_eq (l.drop a), ho]; simp only [List.drop_drop]; rw [List.append_assoc]; rfl
  · have : (putRec M4 (m + 1) { rc with st := bif Nat.beq 0 0 then .ready else .done, pe := 0 }).get m = M4.get m := Store.get_set_ne _ _ (by omega)
    rw [this, hget m (by omega) (by omega) (by omega), hg1 m (by omega)]; exact hdf

theorem Scan_ok {M : Store} {v : Value} {l : List UInt8} (h : B M v l) (hl : l.length ≤ 2 ^ 24) : R F.fram_Scan #[v] M fun r M' => Up M M' ∧ ∃ w, r = .tuple #[w, .int .i64 (flen (scanF l) : Nat)] ∧ NLs B Ty.sl_uint8 M M' w (scanF l) := by
  refine R.cps fun Q hQ => ?_
  apply T_fram_Scan
  unfold S_fram_Scan
  simp only [ev]
  have u1 := Up.push M (some (.inl ([.slice none 0 0], Ty.sl_sl_uint8, true)))
  have o4 := Ob.new M [.slice none 0 0] Ty.sl_sl_uint8
  have n1 : (M.push (some (.inl ([.slice none 0 0], Ty.sl_sl_uint8, true)))).n = M.n + 1 := rfl
  generalize hM1 : M.push (some (.inl ([.slice none 0 0], Ty.sl_sl_uint8, true))) = M1 at *
  have u2 := Up.push M1 (some (.inl ([.int .i64 0], Ty.int, true)))
  have o5 := Ob.new M1 [.int .i64 0] Ty.int
  have n2 : (M1.push (some (.inl ([.int .i64 0], Ty.int, true)))).n = M1.n + 1 := rfl
  generalize hM2 : M1.push (some (.inl ([.int .i64 0], Ty.int, true))) = M2 at *
  rw [o5.st (o := 0) (by simp) rfl rfl, OP_some]
  have c3 := Ch.setO o5 (some (.inl ([Value.int .i64 0].set 0 (.int .i64 0), Ty.int, true)))
  have o53 := o5.setSt ([Value.int .i64 0].set 0 (.int .i64 0))
  have k3 := c3.keepT o5
  have n3 : (M2.set M1.n (some (.inl ([Value.int .i64 0].set 0 (.int .i64 0), Ty.int, true)))).n = M2.n := by simp
  generalize hM3 : M2.set M1.n (some (.inl ([Value.int .i64 0].set 0 (.int .i64 0), Ty.int, true))) = M3 at *
  have u3 : Up M M3 := Up.ch (u1.trans u2) c3 (fun c hc => by simp at hc; omega)
  have o43 := (o4.up u2).keep ne5 k3
  refine (All_ok (Sl.up h u3) hl).mono fun r M4 ⟨hu4, b, w, hr, hb, hob, hby⟩ => ?_
  subst hr
  have u4 : Up M M4 := u3.trans hu4
  have hn34 := hu4.le
  apply T_fram_Scan_1
  unfold S_fram_Scan_1
  intro rc hRC
  have u5 := Up.push M4 (some (.inr (.inr none)))
  have d5 : (M4.push (some (.inr (.inr none)))).get M4.n = some (.inr (.inr none)) := Store.get_push_eq _ _
  have n5 : (M4.push (some (.inr (.inr none)))).n = M4.n + 1 := rfl
  generalize hM5 : M4.push (some (.inr (.inr none))) = M5 at *
  have u6 := Up.push M5 (some (.inr (.inr (some rc))))
  have r6 : Rc (M5.push (some (.inr (.inr (some rc))))) (M4.n + 1) rc := by rw [← n5]; exact Store.get_push_eq _ _
  have n6 : (M5.push (some (.inr (.inr (some rc))))).n = M5.n + 1 := rfl
  generalize hM6 : M5.push (some (.inr (.inr (some rc)))) = M6 at *
  have u46 : Up M4 M6 := u5.trans u6
  have hbl := hob.lt
  have hJ0 : SJ M M6 M4.n M.n M1.n b w l 0 [] M6 :=
    { up := u4.trans u46, nb := Nat.le_refl _, out := ⟨.slice none 0 0, (o43.up hu4).up u46, NLs.nil⟩, end_ := (o53.up hu4).up u46, rc := ⟨rc, r6, hRC⟩, box := hob.up u46, by_ := Sl.up hby u46, at_ := rfl, all := rfl, df := u6.get d5 }
  show R F.fram_All_c1 #[.func (.yield (M4.n + 1)) #[] #[], .pointer (some ⟨b, 0, none⟩)] M6 _
  refine Allc1_ok (w := w) hl (SJ M M6 M4.n M.n M1.n b w l) (fun _ => False) hJ0 ?_ ?_ ?_ ?_ ?_
  · intro a d N N' hJ hN
    obtain ⟨q1, q2, ⟨lw, q3, q4⟩, q5, ⟨rc', q6, q7⟩, q8, q9, q10, q11, q12⟩ := hJ
    exact ⟨q1.trans hN, Nat.le_trans q2 hN.le, ⟨lw, q3.up hN, NLs.up By.up' q4 hN⟩, q5.up hN, ⟨rc', q6.up hN, q7⟩, q8.up hN, Sl.up q9 hN, q10, q11, hN.get q12⟩
  · intro a d N hJ; exact ⟨hJ.box, hJ.by_⟩
  · intro a d N x u hJ ho ha hu
    exact (SJ.round hl (by omega) ⟨by omega, by omega, by omega⟩ ⟨by omega, by omega, by omega⟩ ⟨by omega, by omega, by omega⟩ hJ ho ha hu).mono fun v M' hh => .inl hh
  · intro a d N hJ ho
    obtain ⟨q1, q2, ⟨lw, q3, q4⟩, q5, ⟨rc', q6, q7⟩, q8, q9, q10, q11, q12⟩ := hJ
    rw [scanF_eq, ho, List.append_nil] at q11
    subst q11
    have hst : rc'.st = .ready ∧ rc'.pe = 0 := by obtain ⟨f, _, _, rfl⟩ := q7; exact ⟨rfl, rfl⟩
    rw [q6.of, OP_some]
    refine ⟨by rw [hst.1]; decide, ?_⟩
    rw [hst.2]
    show P_fram_Scan_3 _ _ _ _ _
    have k7 := q6.keepI { rc' with st := .exhausted }
    have c7 := q6.ch { rc' with st := .exhausted }
    have d7 : (putRec N (M4.n + 1) { rc' with st := .exhausted }).get M4.n = some (.inr (.inr none)) := by
      have : (putRec N (M4.n + 1) { rc' with st := .exhausted }).get M4.n = N.get M4.n := Store.get_set_ne _ _ (by omega)
      rw [this, q12]
    rw [hst.2] at c7 d7 k7
    generalize putRec N (M4.n + 1) { st := .exhausted, pe := 0, tmps := rc'.tmps, params := rc'.params, assign := rc'.assign, body := rc'.body } = N1 at *
    apply T_fram_Scan_3
    unfold S_fram_Scan_3
    rw [(q3.keepI k7).ld (o := 0) rfl, OP_some]
    refine (ClipBB_ok (NLs.keepI By.keepI' q4 k7)).mono fun v2 N2 ⟨hN2, h2⟩ => ?_
    subst hN2
    refine ⟨Up.tdj (Ch.refl _ _) _ _, ?_⟩
    rw [(q5.keepI k7).ld (o := 0) rfl, OP_some]
    have ht : atake [{ target := .collected M4.n, args := #[] }] N2 = some (N2.set M4.n none) := by simp [atake, d7]
    rw [ht, OP_some]
    obtain ⟨a2, c2, rfl⟩ := ls_nts h2.ls
    refine ⟨rfl, hQ _ _ ⟨?_, _, rfl, ?_⟩⟩
    · exact Up.ch (Up.ch q1 c7 (fun c hc => by simp at hc; omega)) (Ch.set d7 _) (fun c hc => by simp at hc; omega)
    · exact (NLs.keepI By.keepI' h2 (KeepI.setR d7 _)).base (by omega)
  · intro N h; exact h.elim

end Go.G
