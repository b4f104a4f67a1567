/- Layer 9: files made, written, read, by the program. -/
import Derived.Test.YtpacolplhcfamaaPGI
import Derived.Test.YtpacolplhcfamaaPN1
import Derived.Test.YtpacolplhcfamaaPU1
import Derived.Test.YtpacolplhcfamaaPY15n
namespace Go.G
open Go.Ab Go.Proofs Go.RowKit
set_option linter.unusedVariables false
set_option linter.unusedSimpArgs false
set_option maxRecDepth 100000

abbrev pB (b : Nat) : Value := .pointer (some ⟨b, 0, none⟩)
theorem nilc_p (b : Nat) (K : Value → Prop) : OP (nilc (pB b)) K = K (pB b) := rfl
/-- The files: their bytes and stamps. -/
abbrev Fl := List UInt8 → Option (List UInt8 × Nat)
def FileR (M : Store) (o : Option Value) (f : Option (List UInt8 × Nat)) : Prop := match f with
  | none => o = none
  | some p => ∃ a n c, o = some (.agg #[.slice a n c, iv (p.2 : Int)]) ∧ B M (.slice a n c) p.1
theorem FileR.mono {M M' : Store} {o : Option Value} {f : Option (List UInt8 × Nat)} (h : FileR M o f) (k : ∀ v l, B M v l → B M' v l) : FileR M' o f := by
  cases f with
  | none => exact h
  | some p => obtain ⟨a, n, c, e, hB⟩ := h; exact ⟨a, n, c, e, k _ _ hB⟩
/-- The files that lie in memory: the box, its map; room; at most so many bytes; so many were written. -/
structure FSR (M0 M : Store) (bf r room U last : Nat) (fl : Fl) : Prop where
  b0 : M0.n ≤ bf
  r0 : M0.n ≤ r
  ob : ∃ used : Int, Ob M bf [iv (room : Int), iv used, iv (last : Int), tv false, iv 0, .map (some r)] Ty.simf_FS ∧ -((last : Int) * 2 ^ 20) ≤ used ∧ used ≤ (U : Int)
  mp : ∃ g, Mp sv M r g ∧ ∀ k, FileR M (g k) (fl k)
  sz : ∀ k p, fl k = some p → p.1.length ≤ 2 ^ 20
theorem FSR.up {M0 M M' : Store} {bf r room U last : Nat} {fl : Fl} (h : FSR M0 M bf r room U last fl) (k : Up M M') : FSR M0 M' bf r room U last fl := by
  obtain ⟨used, h1, h2⟩ := h.ob
  obtain ⟨g, h3, h4⟩ := h.mp
  exact ⟨h.b0, h.r0, ⟨used, h1.up k, h2⟩, ⟨g, h3.up k, fun q => (h4 q).mono fun _ _ h => Sl.up h k⟩, h.sz⟩
theorem FSR.keep {M0 M M' : Store} {bf r room U last : Nat} {fl : Fl} (h : FSR M0 M bf r room U last fl) {e : TypeId} (h1 : Ty.simf_FS ≠ e) (h2 : Ty.uint8 ≠ e) (k : Keep e M M') : FSR M0 M' bf r room U last fl := by
  obtain ⟨used, h3, h4⟩ := h.ob
  obtain ⟨g, h5, h6⟩ := h.mp
  exact ⟨h.b0, h.r0, ⟨used, h3.keep h1 k, h4⟩, ⟨g, h5.keep k, fun q => (h6 q).mono fun _ _ h => Sl.keep h h2 k⟩, h.sz⟩
/-- What a write to the files leaves as it was. -/
def Away (e : TypeId) (M : Store) (S : List Nat) : Prop := ∀ b ∈ S, (∃ cells T, M.get b = some (.inl (cells, T, true)) ∧ e ≠ T) ∨ ∃ q, M.get b = some (.inr q)
theorem FSR.away {M0 M : Store} {bf r room U last : Nat} {fl : Fl} (h : FSR M0 M bf r room U last fl) {e : TypeId} (he : e ≠ Ty.simf_FS) : Away e M [bf, r] := by
  intro b hb
  obtain ⟨used, h1, _⟩ := h.ob
  obtain ⟨g, ⟨kvs, h2, _⟩, _⟩ := h.mp
  rcases List.mem_cons.1 hb with rfl | hb
  · exact .inl ⟨_, _, h1, he⟩
  · have : b = r := by simpa using hb
    subst this
    exact .inr ⟨_, h2⟩
theorem Nw.away {s : Nat} {e : TypeId} {M0 M M' : Store} {v : Value} {n : Nat} {cs : List Value} (h : Nw s e M0 M v n cs) {S : List Nat} (ha : Away e M S) (k : Ch S M M') : Nw s e M0 M' v n cs := by
  obtain ⟨h1, h | ⟨b, cells, c, h2, h3, h4, h5⟩⟩ := h
  · exact ⟨h1, .inl h⟩
  · refine ⟨h1, .inr ⟨b, cells, c, h2, h3, k.at h4 fun hm => ?_, h5⟩⟩
    rcases ha b hm with ⟨cells', T, g1, g2⟩ | ⟨q, g1⟩
    · rw [h4] at g1; injection g1 with g1; injection g1 with g1; simp only [Prod.mk.injEq] at g1; exact g2 g1.2.1
    · rw [h4] at g1; injection g1 with g1; cases g1
theorem Ob.away {M M' : Store} {b : Nat} {cells : List Value} {e : TypeId} (h : Ob M b cells e) {S : List Nat} (ha : Away e M S) (k : Ch S M M') : Ob M' b cells e := by
  have h4 : M.get b = some (.inl (cells, e, true)) := h
  refine k.at h4 fun hm => ?_
  rcases ha b hm with ⟨cells', T, g1, g2⟩ | ⟨q, g1⟩
  · rw [h4] at g1; injection g1 with g1; injection g1 with g1; simp only [Prod.mk.injEq] at g1; exact g2 g1.2.1
  · rw [h4] at g1; injection g1 with g1; cases g1

theorem bs_fs (r : Nat) : bldS #[(.int .i64 0), (.int .i64 0), (.int .i64 0), (.bool false), (.int .i64 0), (.map none)] [(0, 1), (1, 1), (2, 1), (3, 1), (4, 1), (5, 1)] [(5, .map (some r))] = some (.agg #[iv 0, iv 0, iv 0, tv false, iv 0, .map (some r)]) := by kernel_rfl
theorem bx_fs (r : Nat) : boxv (.agg #[iv 0, iv 0, iv 0, tv false, iv 0, .map (some r)]) = some [iv 0, iv 0, iv 0, tv false, iv 0, .map (some r)] := by kernel_rfl
theorem New_ok {M : Store} {room : Nat} (hr : room ≤ 2 ^ 30) : R F.simf_New #[iv (room : Int)] M fun v M' => Up M M' ∧ ∃ bf r, v = pB bf ∧ FSR M M' bf r room 0 0 fun _ => none := by
  refine R.cps fun Q hQ => ?_
  apply T_simf_New
  unfold S_simf_New
  rw [LT_eq]
  have u1 := Up.push M (some (.inr (.inl [])))
  have m1 : Mp sv (M.push (some (.inr (.inl [])))) M.n fun _ => none := Mp.new M
  generalize M.push (some (.inr (.inl []))) = M1 at *
  rw [bs_fs, OP_some, bx_fs, OP_some]
  refine s_new fun M2 u2 o2 _ => ?_
  apply T_simf_FS_Room
  unfold S_simf_FS_Room
  show OP (amax2 (.int .i64 (room : Int)) (.int .i64 0)) _
  have e1 : amax2 (.int .i64 (room : Int)) (.int .i64 0) = some (.int .i64 (if (0 : Int) > (room : Int) then 0 else (room : Int))) := rfl
  rw [e1, OP_some, if_neg (by omega)]
  show OP (amin2 (.int .i64 (room : Int)) (.int .i64 1073741824)) _
  rw [e_min, if_neg (by omega), nilc_p, fad0]
  refine s_st1 (i := 0) (w := iv (room : Int)) o2 (by simp) rfl rfl fun M3 c3 o3 _ => ?_
  have u23 : Up M M3 := (u1.trans u2).ch c3 (by have := u1.n; simpa using this)
  refine ⟨rfl, rfl, hQ _ _ ⟨u23, M1.n, M.n, rfl, ⟨u1.n, Nat.le_refl _, ⟨0, o3, by simp, by simp⟩, ⟨fun _ => none, (m1.up u2).fr c3 (by have := m1.lt; simp; omega), fun _ => rfl⟩, fun k p h => by cases h⟩⟩⟩
theorem prt0 (x y : Value) (h : x.oneCell' = true) (hx : valB false [x] = some x) (K : Value → Prop) : OP (prt 0 1 false (.agg #[x, y])) K = K x := by
  have : prt 0 1 false (.agg #[x, y]) = valB false [x] := rfl
  rw [this, hx, OP_some]
theorem prt0s (a : Option Addr) (n c : Nat) (y : Value) (K : Value → Prop) : OP (prt 0 1 false (.agg #[.slice a n c, y])) K = K (.slice a n c) := by kernel_rfl
theorem prt1i (x : Value) (z : Int) (K : Value → Prop) : OP (prt 1 1 false (.agg #[x, iv z])) K = K (iv z) := by kernel_rfl
abbrev zF : Value := .agg #[(.slice none 0 0), (.int .i64 0)]
/-- What is found of a file: where its bytes lie, its stamp. -/
theorem file_get {M : Store} {o : Option Value} {f : Option (List UInt8 × Nat)} (h : FileR M o f) : ∃ a n c, ∃ z : Nat, o.getD zF = .agg #[.slice a n c, iv (z : Int)] ∧ B M (.slice a n c) (f.map (·.1) |>.getD []) ∧ z = (f.map (·.2) |>.getD 0) := by
  cases f with
  | none => rw [show o = none from h]; exact ⟨none, 0, 0, 0, rfl, Sl.nil _ _ _, rfl⟩
  | some p => obtain ⟨a, n, c, e, hB⟩ := h; rw [e]; exact ⟨a, n, c, p.2, rfl, hB, rfl⟩
section
variable {M0 M : Store} {bf r room U last : Nat} {fl : Fl}
theorem fs6 {b : Nat} {c0 c1 c2 c3 c4 c5 : Value} (o : Ob M b [c0, c1, c2, c3, c4, c5] Ty.simf_FS) : (∀ K : Value → Prop, OP (ld 1 false (.pointer (some ⟨b, 0, none⟩)) M) K = K c0) ∧ (∀ K : Value → Prop, OP (ld 1 false (.pointer (some ⟨b, 1, none⟩)) M) K = K c1) ∧ (∀ K : Value → Prop, OP (ld 1 false (.pointer (some ⟨b, 2, none⟩)) M) K = K c2) ∧ (∀ K : Value → Prop, OP (ld 1 false (.pointer (some ⟨b, 5, none⟩)) M) K = K c5) :=
  ⟨fun K => by rw [o.ld (v := c0) rfl, OP_some], fun K => by rw [o.ld (v := c1) rfl, OP_some], fun K => by rw [o.ld (v := c2) rfl, OP_some], fun K => by rw [o.ld (v := c5) rfl, OP_some]⟩
theorem len_get (h : FSR M0 M bf r room U last fl) (s : List UInt8) : (((fl s).map (·.1)).getD []).length ≤ 2 ^ 20 := by
  cases hf : fl s with
  | none => simp
  | some p => exact h.sz s p hf
theorem simfits_ok (h : FSR M0 M bf r room U last fl) (s : List UInt8) {n : Nat} (hn : n ≤ 2 ^ 20) (hfit : U + n ≤ room) (hroom : room ≤ 2 ^ 30) (hlast : last ≤ 2 ^ 20) : R F.simf_FS_fits #[pB bf, sv s, iv (n : Int)] M fun v M' => M' = M ∧ v = tv true := by
  obtain ⟨used, o, hlo, hhi⟩ := h.ob
  obtain ⟨g, hm, hg⟩ := h.mp
  apply T_simf_FS_fits
  unfold S_simf_FS_fits
  simp only [nilc_p, fad0, (fs6 o).2.2.2, (fs6 o).1, (fs6 o).2.1]
  obtain ⟨a, k, c, z, e, hB, hz⟩ := file_get (hg s)
  rw [hm.look1 key_sv, OP_some, e, prt0s, by_len hB]
  have hl := len_get h s
  generalize (((fl s).map (·.1)).getD []).length = q at *
  show OP (binI .sub (.int .i64 (n : Int)) (.int .i64 (q : Int))) _
  rw [e_sub, w64 (by omega) (by omega)]
  show OP (binI .leq (.int .i64 ((n : Int) - (q : Int))) (.int .i64 0)) _
  rw [e_leq, BR_dec]
  split
  · exact ⟨rfl, trivial, trivial⟩
  · show OP (binI .add (.int .i64 used) (.int .i64 ((n : Int) - (q : Int)))) _
    rw [e_add, w64 (by omega) (by omega)]
    show OP (binI .leq (.int .i64 (used + ((n : Int) - (q : Int)))) (.int .i64 (room : Int))) _
    rw [e_leq, decide_eq_true (by omega)]
    exact ⟨rfl, trivial, rfl⟩
/-- One file written. -/
def putF (fl : Fl) (s : List UInt8) (b : List UInt8) (n : Nat) : Fl := fun k => if k = s then some (b, n) else fl k
theorem bs_file (a : Option Addr) (n c : Nat) (z : Int) : bldS #[(.slice none 0 0), (.int .i64 0)] [(0, 1), (1, 1)] [(0, .slice a n c), (1, iv z)] = some (.agg #[.slice a n c, iv z]) := by kernel_rfl
theorem one_file (a : Option Addr) (n c : Nat) (z : Int) : (Value.agg #[.slice a n c, iv z]).cells.all (·.oneCell') = true := by kernel_rfl
theorem write_ok (hu : Up M0 M) (h : FSR M0 M bf r room U last fl) (s : List UInt8) {x : Value} {b : List UInt8} (hb : B M x b) (hl : b.length ≤ 2 ^ 20) (hU : U + b.length ≤ 2 ^ 30) (hlast : last ≤ 2 ^ 20) :
    R F.simf_FS_write #[pB bf, sv s, x] M fun v M' => Up M0 M' ∧ Ch [bf, r] M M' ∧ v = iv ((last + 1 : Nat) : Int) ∧ FSR M0 M' bf r room (U + b.length) (last + 1) (putF fl s b (last + 1)) := by
  refine R.cps fun Q hQ => ?_
  have haw := h.away (e := Ty.uint8) (by decide)
  obtain ⟨used, o, hlo, hhi⟩ := h.ob
  obtain ⟨g, hm, hg⟩ := h.mp
  have hbr : bf ≠ r := by
    intro e; subst e
    obtain ⟨kvs, h2, _⟩ := hm
    have o' : M.get bf = some (.inl (_, Ty.simf_FS, true)) := o
    rw [o'] at h2; injection h2 with h2; cases h2
  have hlen := len_get h s
  apply T_simf_FS_write
  unfold S_simf_FS_write
  simp only [nilc_p, fad0, (fs6 o).2.2.1]
  rw [add1_n _ (by omega)]
  refine s_st1 (i := 2) (w := iv ((last + 1 : Nat) : Int)) o (by simp) rfl rfl fun M1 c1 o1 _ => ?_
  have o1 : Ob M1 bf [iv (room : Int), iv used, iv ((last + 1 : Nat) : Int), tv false, iv 0, .map (some r)] Ty.simf_FS := o1
  have k1 := c1.keepT o
  have hb1 : B M1 x b := Sl.keep hb (by decide) k1
  have hm1 := hm.keep k1
  obtain ⟨a, k, c, z, e, hB, hz⟩ := file_get (hg s)
  have hB1 := Sl.keep hB (show Ty.uint8 ≠ Ty.simf_FS by decide) k1
  simp only [nilc_p, fad0, (fs6 o1).2.1, (fs6 o1).2.2.2]
  rw [by_len hb1, hm1.look1 key_sv, OP_some, e, prt0s, by_len hB1]
  generalize hq : (((fl s).map (·.1)).getD []).length = q at *
  show OP (binI .sub (.int .i64 (b.length : Int)) (.int .i64 (q : Int))) _
  rw [e_sub, w64 (by omega) (by omega)]
  show OP (binI .add (.int .i64 used) (.int .i64 ((b.length : Int) - (q : Int)))) _
  rw [e_add, w64 (by omega) (by omega)]
  refine s_st1 (i := 1) (w := iv (used + ((b.length : Int) - (q : Int)))) o1 (by simp) rfl rfl fun M2 c2 o2 _ => ⟨c2.tdx o1 (by simpa using o1.lt), ?_⟩
  have o2 : Ob M2 bf [iv (room : Int), iv (used + ((b.length : Int) - (q : Int))), iv ((last + 1 : Nat) : Int), tv false, iv 0, .map (some r)] Ty.simf_FS := o2
  have k2 := c2.keepT o1
  have hb2 : B M2 x b := Sl.keep hb1 (by decide) k2
  have hm2 := hm1.keep k2
  simp only [nilc_p, fad0, (fs6 o2).2.2.1, (fs6 o2).2.2.2]
  obtain ⟨xa, xc, rfl⟩ := hb2.slice
  rw [bs_file, OP_some]
  obtain ⟨M3, e3, hm3, c3, _⟩ := hm2.put key_sv s (v := .agg #[.slice xa b.length xc, iv ((last + 1 : Nat) : Int)]) (one_file _ _ _ _)
  have e3 : mup .string (.map (some r)) (sv s) (.agg #[.slice xa b.length xc, iv ((last + 1 : Nat) : Int)]) M2 = some M3 := e3
  rw [e3, OP_some]
  have hrl := hm2.lt
  refine ⟨⟨c3.n, fun cc hc => ?_⟩, ?_⟩
  · rcases c3.tdiff cc hc with hc | hc
    · exact .inl hc
    · have : cc = r := by simpa using hc
      subst this
      obtain ⟨kvs, h2, _⟩ := hm2
      refine .inr ⟨by rw [h2]; rfl, ?_⟩
      unfold accB
      rw [Bool.or_eq_true]
      exact .inl (by simpa using hrl)
  · have o3 := o2.fr c3 (by simpa using hbr)
    have c13 : Ch [bf, r] M M3 := ((c1.trans2 c2).trans2 c3).mono (by simp)
    have hrm : M0.n ≤ r := h.r0
    simp only [nilc_p, fad0, (fs6 o3).2.2.1]
    refine ⟨rfl, hQ _ _ ⟨hu.ch c13 (fun b hb => ?_), c13, rfl, h.b0, h.r0, ⟨_, o3, by omega, by omega⟩, ⟨_, hm3, fun k => ?_⟩, fun k p hk => ?_⟩⟩
    · simp only [List.mem_cons, List.not_mem_nil, or_false] at hb
      rcases hb with rfl | rfl
      · exact h.b0
      · exact hrm
    · unfold putF
      by_cases hk : k = s
      · rw [if_pos hk, if_pos hk]
        exact ⟨xa, b.length, xc, rfl, Sl.chS hb c13 haw⟩
      · rw [if_neg hk, if_neg hk]
        exact (hg k).mono fun _ _ h => Sl.chS h c13 haw
    · unfold putF at hk
      split at hk
      · injection hk with hk; subst hk; exact hl
      · exact h.sz k p hk
/-- Names of files that the statements use. -/
def nameOk (s : List UInt8) : Prop := ∀ M : Store, acall Try.prog Ex 60 true F.name_File #[sv s] M = some (.bool true, M)
theorem File_n {s : List UInt8} (h : nameOk s) {M : Store} {Q : Value → Store → Prop} (hQ : Q (tv true) M) : R F.name_File #[sv s] M Q := R_run 60 (h M) hQ
theorem Put_ok (hu : Up M0 M) (h : FSR M0 M bf r room U last fl) {s : List UInt8} (hs : nameOk s) {x : Value} {b : List UInt8} (hb : B M x b) (hl : b.length ≤ 2 ^ 20) (hU : U + b.length ≤ room) (hroom : room ≤ 2 ^ 30) (hlast : last ≤ 2 ^ 20) :
    R F.simf_FS_Put #[pB bf, sv s, x] M fun v M' => Up M0 M' ∧ (∃ M1, Up M M1 ∧ Ch [bf, r] M1 M') ∧ v = .tuple #[iv ((last + 1 : Nat) : Int), iv 0] ∧ FSR M0 M' bf r room (U + b.length) (last + 1) (putF fl s b (last + 1)) := by
  refine R.cps fun Q hQ => ?_
  apply T_simf_FS_Put
  unfold S_simf_FS_Put
  refine File_n hs ?_
  rw [e_not, BR_bool, if_neg (by decide), by_len hb]
  refine (simfits_ok h s hl hU hroom hlast).mono fun v M1 ⟨e1, e2⟩ => ?_
  subst e1; subst e2
  rw [e_not, BR_bool, if_neg (by decide)]
  refine (Clone_ok hb (by omega)).mono fun w M2 ⟨u2, h2⟩ => ?_
  refine (write_ok (hu.trans u2) (h.up u2) s h2.by hl (by omega) hlast).mono fun v3 M3 ⟨u3, c3, e3, h3⟩ => ?_
  subst e3
  exact ⟨rfl, hQ _ _ ⟨u3, ⟨M2, u2, c3⟩, rfl, h3⟩⟩
theorem Stamp_ok (h : FSR M0 M bf r room U last fl) (s : List UInt8) : R F.simf_FS_Stamp #[pB bf, sv s] M fun v M' => M' = M ∧ v = iv ((((fl s).map (·.2)).getD 0 : Nat) : Int) := by
  obtain ⟨used, o, hlo, hhi⟩ := h.ob
  obtain ⟨g, hm, hg⟩ := h.mp
  apply T_simf_FS_Stamp
  unfold S_simf_FS_Stamp
  simp only [nilc_p, fad0, (fs6 o).2.2.2]
  obtain ⟨a, k, c, z, e, hB, hz⟩ := file_get (hg s)
  rw [hm.look1 key_sv, OP_some, e, prt1i, hz]
  exact ⟨rfl, trivial, rfl⟩
/-- What is read. -/
def ReadR (M0 M : Store) (v : Value) (f : Option (List UInt8 × Nat)) : Prop := match f with
  | none => v = .tuple #[.slice none 0 0, iv 0, iv 4]
  | some p => ∃ w, v = .tuple #[w, iv (p.2 : Int), iv 0] ∧ N M0 M w p.1
theorem fbox (a : Option Addr) (n c : Nat) (z : Int) : ([.slice a n c, iv z] : List Value).all (·.oneCell') = true := by kernel_rfl
theorem Read_f (h : FSR M0 M bf r room U last fl) {s : List UInt8} (hs : nameOk s) : R F.simf_FS_Read #[pB bf, sv s] M fun v M' => Up M M' ∧ ReadR M M' v (fl s) := by
  refine R.cps fun Q hQ => ?_
  obtain ⟨used, o, hlo, hhi⟩ := h.ob
  obtain ⟨g, hm, hg⟩ := h.mp
  apply T_simf_FS_Read
  unfold S_simf_FS_Read
  simp only [nilc_p, fad0, (fs6 o).2.2.2]
  obtain ⟨a, k, c, z, e, hB, hz⟩ := file_get (hg s)
  rw [hm.look key_sv, OP_some, e]
  rw [(tp2 _ _).1, (tp2 _ _).2]
  refine s_new fun M1 u1 o1 _ => ?_
  refine s_st (vs := [.slice a k c, iv (z : Int)]) o1 rfl rfl (fbox _ _ _ _) fun M2 c2 o2 _ => ?_
  have u2 : Up M M2 := u1.ch c2 (by simp)
  refine File_n hs ?_
  rw [e_not, BR_bool, if_neg (by decide), e_not, BR_bool]
  cases hf : fl s with
  | none =>
    have := hg s
    rw [hf] at this
    rw [show g s = none from this, if_pos (show (!(none : Option Value).isSome) = true from rfl)]
    exact ⟨rfl, hQ _ _ ⟨u2, by rw [hf]; rfl⟩⟩
  | some p =>
    have := hg s
    rw [hf] at this hB hz
    obtain ⟨a', n', c', e', _⟩ := this
    rw [e', if_neg (show ¬ (!(some _ : Option Value).isSome) = true by simp)]
    simp only [fad0, o2.l2]
    have hB : B M (.slice a k c) p.1 := hB
    have hpl := h.sz s p hf
    refine (Clone_ok (Sl.up hB u2) (by omega)).mono fun w M3 ⟨u3, h3⟩ => ⟨u3.tdj _ _, ?_⟩
    simp only [fad0, (o2.up u3).l2]
    have hz : z = p.2 := hz
    subst hz
    refine ⟨by obtain ⟨a, c, rfl⟩ := h3.sl.slice; rfl, hQ _ _ ⟨u2.trans u3, ?_⟩⟩
    rw [hf]
    exact ⟨w, rfl, Nw.base h3 u2.n⟩
end
end Go.G
