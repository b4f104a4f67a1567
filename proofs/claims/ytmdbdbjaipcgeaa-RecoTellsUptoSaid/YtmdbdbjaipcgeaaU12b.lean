/- Layer 12: a doing out of a number. Layer 12: traces of what was written, cut, and written on. Layer 12: doings written one behind the other. Layer 12: traces are of what is whole, and can be written on; for inputs of bulk at most 1048576. Layer 12: RecoTrace as a whole; for inputs of bulk at most 1048576. Layer 12: locks, doings and traces told, in whatever bytes. Appends end in new boxes. Layer 12: bytes to be told are made out of others. Layer 12: RecoTells as a whole; for inputs of bulk at most 1048576. -/
import Derived.Test.YtmdbdbjaipcgeaaU12
namespace Go.G
open Go.Ab Go.Proofs Go.RowKit
set_option linter.unusedVariables false
set_option linter.unusedSimpArgs false
set_option maxRecDepth 100000

def andN (n : Int) (m : Nat) : Nat := (BitVec.ofInt 64 n &&& BitVec.ofInt 64 (m : Int)).toNat
theorem andN_le (n : Int) (m : Nat) (hm : m < 2 ^ 62) : andN n m ≤ m := by
  unfold andN
  rw [BitVec.toNat_and]
  have : (BitVec.ofInt 64 (m : Int)).toNat = m := by rw [BitVec.toNat_ofInt]; omega
  rw [this]
  exact Nat.and_le_right
theorem e_andN (n : Int) (m : Nat) (hm : m < 2 ^ 62) : binI .and (.int .i64 n) (.int .i64 (m : Int)) = some (.int .i64 (andN n m : Int)) := by
  have h : binI .and (.int .i64 n) (.int .i64 (m : Int)) = some (.int .i64 (IntKind.wrap .i64 (BitVec.ofInt 64 n &&& BitVec.ofInt 64 m).toNat)) := rfl
  have hk := andN_le n m hm
  rw [h]
  unfold andN at *
  rw [w64 (by omega) (by omega)]
def u8N (x : Int) : UInt8 := UInt8.ofNat (x % 256).toNat
theorem cv_u8N (x : Int) (K : Value → Prop) : OP (cvI .u8 (.int .i64 x)) K = K (bv (u8N x)) := by
  rw [e_cvI]
  have : IntKind.wrap .u8 x = ((u8N x).toNat : Int) := by
    have h : IntKind.wrap .u8 x = x % 256 := by simp [IntKind.wrap, IntKind.bits, IntKind.signed]
    rw [h, u8N, UInt8.toNat_ofNat']
    omega
  rw [this]; rfl
def shrN (n : Int) (k : Nat) : Int := n.fdiv (2 ^ k)
theorem e_shrN (n : Int) (k : Nat) (hk : k ≤ 64) (K : Value → Prop) : OP (binI .shr (.int .i64 n) (.int .u64 (k : Int))) K = K (.int .i64 (shrN n k)) := by
  rw [e_shr (by omega)]
  have : min (k : Int).toNat (IntKind.bits .i64) = k := by simp [IntKind.bits]; omega
  rw [this]; rfl

def nameN (k : Nat) : List UInt8 := if k = 0 then [97] else if k = 1 then [98] else if k = 2 then [99, 46, 111] else [108, 111, 110, 103, 45, 110, 97, 109, 101, 95, 48, 49, 50, 51]
/-- The doing that a number is. -/
def mkD (n : Int) : Dng := (nameN (andN n 3), (andN (shrN n 2) 7 : Nat), (andN (shrN n 5) 15 : Nat), [u8N (shrN n 9), u8N (shrN n 17)].take (andN (shrN n 25) 3 % 3))
theorem nameN_ok (k : Nat) : okName (nameN k) = true := by
  unfold nameN
  split
  · kernel_rfl
  split
  · kernel_rfl
  split
  · kernel_rfl
  · kernel_rfl
theorem mkD_ok (n : Int) : okDone (mkD n) = true := by
  have h1 := andN_le (shrN n 2) 7 (by omega)
  have h2 := andN_le (shrN n 5) 15 (by omega)
  have h3 : (mkD n).2.2.2.length ≤ 4000 := by simp [mkD]; omega
  have h4 : (mkD n).2.1 = (andN (shrN n 2) 7 : Nat) := rfl
  have h5 : (mkD n).2.2.1 = (andN (shrN n 5) 15 : Nat) := rfl
  have h0 : okName (mkD n).1 = true := nameN_ok _
  simp only [okDone, okNum, h0, decide_eq_true h3, h4, h5, decide_eq_true (show (0 : Int) ≤ ((andN (shrN n 2) 7 : Nat) : Int) by omega), decide_eq_true (show (0 : Int) ≤ ((andN (shrN n 5) 15 : Nat) : Int) by omega), decide_eq_true (show ((andN (shrN n 2) 7 : Nat) : Int) ≤ 1099511627776 by omega), decide_eq_true (show ((andN (shrN n 5) 15 : Nat) : Int) ≤ 1099511627776 by omega)]
  rfl
theorem mkD_len (n : Int) : (mkD n).1.length ≤ 16 ∧ (mkD n).2.2.2.length ≤ 2 := by
  refine ⟨(okName_len (nameN_ok _)).2, ?_⟩
  simp [mkD]; omega
theorem mkD_bytes (n : Int) : (doneF (mkD n)).length ≤ 42 := by
  have h := mkD_len n
  rw [doneF, if_pos (mkD_ok n)]
  simp [be_length]; omega

/-- The four names. -/
def names4 : List Value := [.string ⟨#[97]⟩, .string ⟨#[98]⟩, .string ⟨#[99, 46, 111]⟩, .string ⟨#[108, 111, 110, 103, 45, 110, 97, 109, 101, 95, 48, 49, 50, 51]⟩]
theorem names4_at (k : Nat) (h : k ≤ 3) : (names4.drop (k * 1)).take 1 = [.string ⟨(nameN k).toArray⟩] := by
  have : k = 0 ∨ k = 1 ∨ k = 2 ∨ k = 3 := by omega
  rcases this with rfl | rfl | rfl | rfl <;> rfl

theorem tdx_low {bs Ns : List Nat} {i b : Nat} {M M' : Store} (h : Ch [b] M M') (hs : (M.get b).isSome = true) (hb : b < Ns.getD 0 0) : TDx bs Ns i M M' := by
  refine ⟨h.n, fun c hc => ?_⟩
  rcases h.tdiff c hc with h1 | h1
  · exact .inl h1
  · simp only [List.mem_singleton] at h1
    subst h1
    refine .inr ⟨hs, ?_⟩
    rw [accB, decide_eq_true hb]; rfl
theorem Done12_ok (M : Store) (n : Int) : R F.fettlelaw12_Done #[.int .i64 n] M fun v M' => Up M M' ∧ Dn M' v (mkD n) := by
  refine R.cps fun Q hQ => ?_
  apply T_fettlelaw12_Done
  unfold S_fettlelaw12_Done
  rw [LT_eq]
  have o1 := Ob.new M [.string ⟨#[]⟩, .int .i64 0, .int .i64 0, .slice none 0 0] Ty.api_Done
  have u1 := Up.push M (some (.inl ([Value.string ⟨#[]⟩, .int .i64 0, .int .i64 0, .slice none 0 0], Ty.api_Done, true)))
  have n1 : (M.push (some (.inl ([Value.string ⟨#[]⟩, .int .i64 0, .int .i64 0, .slice none 0 0], Ty.api_Done, true)))).n = M.n + 1 := rfl
  generalize M.push (some (.inl ([Value.string ⟨#[]⟩, .int .i64 0, .int .i64 0, .slice none 0 0], Ty.api_Done, true))) = M1 at *
  have e4 : ∀ K : List Value → Prop, OP (bldL (.string ⟨#[]⟩) 1 4 [(0, (.string ⟨#[97]⟩)), (1, (.string ⟨#[98]⟩)), (2, (.string ⟨#[99, 46, 111]⟩)), (3, (.string ⟨#[108, 111, 110, 103, 45, 110, 97, 109, 101, 95, 48, 49, 50, 51]⟩))]) K = K names4 := fun K => by kernel_rfl
  rw [e4, LT_eq]
  have hN : Nw 1 Ty.string M1 (M1.push (some (.inl (names4, Ty.string, true)))) (.slice (some ⟨M1.n, 0, none⟩) 4 4) 4 names4 := Nw.lit (n := 4) (Nat.le_refl _) rfl
  have u2 := Up.push M1 (some (.inl (names4, Ty.string, true)))
  generalize M1.push (some (.inl (names4, Ty.string, true))) = M2 at *
  have b3 := andN_le n 3 (by omega)
  have ea : binI .and (.int .i64 n) (.int .i64 3) = some (.int .i64 (andN n 3 : Int)) := e_andN n 3 (by omega)
  obtain ⟨p, ep, el⟩ := hN.sl.at (i := andN n 3) (by omega) .i64
  have el : ld 1 false p M2 = some (.string ⟨(nameN (andN n 3)).toArray⟩) := by rw [el false, names4_at _ b3]; rfl
  have es2 : ∀ K : Value → Prop, OP (binI .shr (.int .i64 n) (.int .u64 2)) K = K (.int .i64 (shrN n 2)) := e_shrN n 2 (by omega)
  have es5 : ∀ K : Value → Prop, OP (binI .shr (.int .i64 n) (.int .u64 5)) K = K (.int .i64 (shrN n 5)) := e_shrN n 5 (by omega)
  have es9 : ∀ K : Value → Prop, OP (binI .shr (.int .i64 n) (.int .u64 9)) K = K (.int .i64 (shrN n 9)) := e_shrN n 9 (by omega)
  have es17 : ∀ K : Value → Prop, OP (binI .shr (.int .i64 n) (.int .u64 17)) K = K (.int .i64 (shrN n 17)) := e_shrN n 17 (by omega)
  have es25 : ∀ K : Value → Prop, OP (binI .shr (.int .i64 n) (.int .u64 25)) K = K (.int .i64 (shrN n 25)) := e_shrN n 25 (by omega)
  have ea2 : binI .and (.int .i64 (shrN n 2)) (.int .i64 7) = some (.int .i64 (andN (shrN n 2) 7 : Int)) := e_andN _ 7 (by omega)
  have ea5 : binI .and (.int .i64 (shrN n 5)) (.int .i64 15) = some (.int .i64 (andN (shrN n 5) 15 : Int)) := e_andN _ 15 (by omega)
  have ea25 : binI .and (.int .i64 (shrN n 25)) (.int .i64 3) = some (.int .i64 (andN (shrN n 25) 3 : Int)) := e_andN _ 3 (by omega)
  rw [ea, OP_some, ep, OP_some, el, OP_some, es2, ea2, OP_some, es5, ea5, OP_some, es9, cv_u8N, es17, cv_u8N]
  have e2 : ∀ (x y : UInt8) (K : List Value → Prop), OP (bldL (.int .u8 0) 1 2 [(0, bv x), (1, bv y)]) K = K [bv x, bv y] := fun x y K => by kernel_rfl
  rw [e2, LT_eq]
  have hB : N M2 (M2.push (some (.inl ([bv (u8N (shrN n 9)), bv (u8N (shrN n 17))], Ty.uint8, true)))) (.slice (some ⟨M2.n, 0, none⟩) 2 2) [u8N (shrN n 9), u8N (shrN n 17)] := Nw.lit (n := 2) (Nat.le_refl _) rfl
  have u3 := Up.push M2 (some (.inl ([bv (u8N (shrN n 9)), bv (u8N (shrN n 17))], Ty.uint8, true)))
  generalize M2.push (some (.inl ([bv (u8N (shrN n 9)), bv (u8N (shrN n 17))], Ty.uint8, true))) = M3 at *
  have er : binI .rem (.int .i64 (andN (shrN n 25) 3 : Int)) (.int .i64 3) = some (.int .i64 ((andN (shrN n 25) 3 % 3 : Nat) : Int)) := e_rem _ 3 (by omega)
  rw [es25, ea25, OP_some, er, OP_some]
  have hlt : andN (shrN n 25) 3 % 3 < 3 := Nat.mod_lt _ (by omega)
  obtain ⟨w, ew, hw⟩ := By.cut hB.by (lo := none) (hi := some (.int .i64 ((andN (shrN n 25) 3 % 3 : Nat) : Int))) (a := 0) (r := andN (shrN n 25) 3 % 3) (abound_nat (by simp; omega)) rfl (by simp; omega) (by omega)
  rw [List.drop_zero] at hw
  rw [ew, OP_some]
  obtain ⟨ad, cc, rfl⟩ := hw.slice
  have ebl : ∀ (nm : List UInt8) (a b : Int) (ad : Option Addr) (k c : Nat), bldS #[.string ⟨#[]⟩, .int .i64 0, .int .i64 0, .slice none 0 0] [(0, 1), (1, 1), (2, 1), (3, 1)] [(0, .string ⟨nm.toArray⟩), (1, .int .i64 a), (2, .int .i64 b), (3, .slice ad k c)] = some (dnv nm a b ad k c) := fun nm a b ad k c => by kernel_rfl
  have o3 := o1.up (u2.trans u3)
  rw [ebl, OP_some, st4_ok o3 rfl (dn_cells _ _ _ _ _ _) (dn_one _ _ _ _ _ _), OP_some]
  refine ⟨tdx_low (Ch.setO o3 _) (by rw [show M3.get M.n = _ from o3]; rfl) (show M.n < M1.n by omega), ?_⟩
  rw [(o3.setSt _).ldA (s := 4) rfl, OP_some]
  refine ⟨rfl, hQ _ _ ⟨Up.ch ((u1.trans u2).trans u3) (Ch.setO o3 _) fun c hc => by simp at hc; omega, ?_⟩⟩
  exact ⟨ad, _, cc, rfl, B.set o3 ne_dn _ hw⟩

end Go.G

namespace Go.G
open Go.Ab Go.Proofs Go.RowKit
set_option linter.unusedVariables false
set_option linter.unusedSimpArgs false
set_option maxRecDepth 100000

/-- Doings as frames. -/
def frD (ds : List Dng) : List UInt8 := (ds.map fun d => frm (doneF d)).flatten
theorem frD_append (a b : List Dng) : frD (a ++ b) = frD a ++ frD b := by simp [frD]
theorem frD_cons (d : Dng) (r : List Dng) : frD (d :: r) = frm (doneF d) ++ frD r := by simp [frD]
theorem frD_one (d : Dng) : frD [d] = frm (doneF d) := by simp [frD]
/-- Doings that are right, and short. -/
def OkD (ds : List Dng) : Prop := ∀ d ∈ ds, okDone d = true ∧ (doneF d).length ≤ 42
theorem frD_len : ∀ {ds : List Dng}, OkD ds → (frD ds).length ≤ 52 * ds.length
  | [], _ => by simp [frD]
  | d :: r, h => by
    have h1 := (h d (by simp)).2
    have h2 := frD_len (ds := r) fun x hx => h x (by simp [hx])
    rw [frD_cons, List.length_append, frm_length, List.length_cons]; omega
theorem oneF_take (x : List UInt8) (h : x.length ≤ 10000) (k : Nat) (hk : k < (frm x).length) : oneF ((frm x).take k) = none := by
  cases hone : oneF ((frm x).take k) with
  | none => rfl
  | some x' =>
    exfalso
    have hlen := (oneF_len hone).1
    simp only [oneF] at hone
    obtain ⟨p, h1, h2⟩ := Option.bind_eq_some_iff.1 hone
    obtain ⟨z, r⟩ := p
    simp only at h2
    split at h2
    · cases h2
    split at h2
    · injection h2 with h2; subst h2
      obtain ⟨g1, g2, g3, g4, g5⟩ := rdBytes_iff.1 h1
      have hz : z.length = numOf (((frm x).take k).take 6) := by rw [g4, List.length_take, List.length_drop]; omega
      have hk6 : 6 ≤ k := by simp only [List.length_take] at g1; omega
      have e1 : ((frm x).take k).take 6 = be 6 x.length := by
        rw [List.take_take, Nat.min_eq_left hk6]
        have hD : frm x = be 6 x.length ++ (x ++ sum4 (crc (be 6 x.length ++ x))) := by simp [frm]
        rw [hD, List.take_left' (be_length _ _)]
      rw [e1, numOf_be _ _ (by omega)] at hz
      simp only [List.length_take] at hlen
      rw [frm_length] at hk
      omega
    · cases h2
theorem scan_take (x : List UInt8) (h : x.length ≤ 10000) (k : Nat) (hk : k < (frm x).length) : scanF ((frm x).take k) = [] := by
  rw [scanF_eq, oneF_take x h k hk]
theorem scan_frD : ∀ {ds : List Dng}, OkD ds → ∀ r, scanF (frD ds ++ r) = ds.map doneF ++ scanF r
  | [], _, r => by simp [frD]
  | d :: ds, h, r => by
    have h1 := (h d (by simp)).2
    rw [frD_cons, List.append_assoc, scanF_frm _ _ (by omega), scan_frD (fun x hx => h x (by simp [hx])) r]; rfl
theorem trF_frD : ∀ {ds : List Dng}, OkD ds → trF (ds.map doneF) = (ds, (frD ds).length)
  | [], _ => rfl
  | d :: ds, h => by
    have h1 := (h d (by simp)).1
    rw [List.map_cons, trF_some (openDone_done h1), trF_frD (fun x hx => h x (by simp [hx])), frD_cons, List.length_append, frm_length]
theorem OkD.take {ds : List Dng} (h : OkD ds) (c : Nat) : OkD (ds.take c) := fun d hd => h d (List.mem_of_mem_take hd)
/-- What a trace finds in bytes that are cut. -/
theorem tr_cut {ds : List Dng} (h : OkD ds) {c cut : Nat} (hc : c ≤ ds.length) (h1 : (frD (ds.take c)).length ≤ cut) (h2 : c < ds.length → cut < (frD (ds.take (c + 1))).length) (h3 : cut ≤ (frD ds).length) :
    trF (scanF ((frD ds).take cut)) = (ds.take c, (frD (ds.take c)).length) := by
  have hsplit : frD ds = frD (ds.take c) ++ frD (ds.drop c) := by rw [← frD_append, List.take_append_drop]
  have hcut : (frD ds).take cut = frD (ds.take c) ++ (frD (ds.drop c)).take (cut - (frD (ds.take c)).length) := by
    rw [hsplit, List.take_append, List.take_of_length_le h1]
  have hrest : scanF ((frD (ds.drop c)).take (cut - (frD (ds.take c)).length)) = [] := by
    rcases Nat.lt_or_ge c ds.length with hlt | hge
    · have hd : ds.drop c = ds[c] :: ds.drop (c + 1) := (List.getElem_cons_drop hlt).symm
      have ht : frD (ds.take (c + 1)) = frD (ds.take c) ++ frm (doneF ds[c]) := by
        rw [List.take_succ_eq_append_getElem hlt, frD_append, frD_one]
      have g := h2 hlt
      rw [ht, List.length_append] at g
      rw [hd, frD_cons, List.take_append_of_le_length (by omega)]
      have hl := (h _ (List.getElem_mem hlt)).2
      exact scan_take _ (by omega) _ (by omega)
    · rw [List.drop_eq_nil_of_le hge]
      have : (frD []).take (cut - (frD (ds.take c)).length) = [] := by simp [frD]
      rw [this, scanF_short _ (by simp)]
  rw [hcut, scan_frD (h.take c), hrest, List.append_nil, trF_frD (h.take c)]

end Go.G

namespace Go.G
open Go.Ab Go.Proofs Go.RowKit
set_option linter.unusedVariables false
set_option linter.unusedSimpArgs false
set_option maxRecDepth 100000

abbrev iv (x : Int) : Value := .int .i64 x
/-- A slice of ints. -/
def Is (M : Store) (v : Value) (l : List Int) : Prop := Sl 1 Ty.int M v l.length (l.map iv)
def NIs (M0 M : Store) (v : Value) (l : List Int) : Prop := Nw 1 Ty.int M0 M v l.length (l.map iv)
theorem Is.up {M M' v l} (h : Is M v l) (k : Up M M') : Is M' v l := Sl.up h k
theorem Is.at {M v l} (h : Is M v l) {i : Nat} (hi : i < l.length) : ∃ p, ixA 1 v (.int .i64 (i : Int)) = some p ∧ ld 1 false p M = some (.int .i64 l[i]) := by
  obtain ⟨p, e1, e2⟩ := Sl.at h hi .i64
  refine ⟨p, e1, ?_⟩
  rw [e2 false, Nat.mul_one, List.drop_eq_getElem_cons (by simpa using hi)]
  simp [valB, iv]
theorem ne_ui : Ty.uint8 ≠ Ty.int := by decide
theorem ne_di : Ty.api_Done ≠ Ty.int := by decide
theorem ne_id : Ty.int ≠ Ty.api_Done := by decide
theorem NDs.keep {M0 M M' v ps} {e : TypeId} (h : NDs M0 M v ps) (h1 : Ty.api_Done ≠ e) (h2 : Ty.uint8 ≠ e) (k : Keep e M M') : NDs M0 M' v ps := ⟨Nw.keep h.1 h1 k, fun p hp => Sl.keep (h.2 p hp) h2 k⟩

def endsD (ds : List Dng) : List Int := (List.range ds.length).map fun j => ((frD (ds.take (j + 1))).length : Int)
theorem endsD_len (ds : List Dng) : (endsD ds).length = ds.length := by simp [endsD]
theorem endsD_at (ds : List Dng) {i : Nat} (h : i < (endsD ds).length) : (endsD ds)[i] = ((frD (ds.take (i + 1))).length : Int) := by simp [endsD]
theorem endsD_append (ds : List Dng) (d : Dng) : endsD (ds ++ [d]) = endsD ds ++ [((frD (ds ++ [d])).length : Int)] := by
  simp only [endsD, List.length_append, List.length_singleton, List.range_succ, List.map_append, List.map_cons, List.map_nil]
  congr 1
  · apply List.map_congr_left
    intro j hj
    have := List.mem_range.1 hj
    rw [List.take_append_of_le_length (by omega)]
  · rw [List.take_of_length_le (by simp)]
theorem mkD_OkD (ns : List Int) : OkD (ns.map mkD) := by
  intro d hd
  obtain ⟨n, _, rfl⟩ := List.mem_map.1 hd
  exact ⟨mkD_ok n, mkD_bytes n⟩

theorem RT_loop1 {M0 : Store} {x0 x1 x2 : Value} {ns : List Int} (hlen : ns.length ≤ 2 ^ 22) (h0 : Is M0 x0 ns) {Q : Value → Store → Prop}
    (hQ : ∀ M' v7 v8 v9 ps ds, Up M0 M' → OkD ds → ds.length ≤ 10 → N M0 M' v7 (frD ds) → NDs M0 M' v8 ps → ps.map (·.1) = ds → NIs M0 M' v9 (endsD ds) → P_fettlelaw12_RecoTrace_3 x1 x2 v7 v8 v9 M' Q) :
    ∀ (k i : Nat) (M : Store) (v7 v8 v9 : Value) (ps : List DP) (ds : List Dng), k + i = min ns.length 10 → ds = (ns.take i).map mkD → Up M0 M → N M0 M v7 (frD ds) → NDs M0 M v8 ps → ps.map (·.1) = ds → NIs M0 M v9 (endsD ds) →
      P_fettlelaw12_RecoTrace_1 x0 x1 x2 v7 v8 v9 (.int .i64 (i : Int)) M Q := by
  intro k
  induction k with
  | zero =>
    intro i M v7 v8 v9 ps ds hi hds hu h7 h8 hps h9
    have hok : OkD ds := by rw [hds]; exact mkD_OkD _
    have hdl : ds.length ≤ 10 := by rw [hds]; simp; omega
    have fin := hQ M v7 v8 v9 ps ds hu hok hdl h7 h8 hps h9
    apply T_fettlelaw12_RecoTrace_1
    unfold S_fettlelaw12_RecoTrace_1
    rw [Sl.lenV (h0.up hu), OP_some, e_lss, BR_dec]
    split
    · rename_i g1
      rw [e_lss, BR_dec, if_neg (by omega)]; exact fin
    · exact fin
  | succ k ih =>
    intro i M v7 v8 v9 ps ds hi hds hu h7 h8 hps h9
    have hok : OkD ds := by rw [hds]; exact mkD_OkD _
    have hil : i < ns.length := by omega
    have hdl : ds.length = i := by rw [hds]; simp; omega
    have hfl := frD_len hok
    apply T_fettlelaw12_RecoTrace_1
    unfold S_fettlelaw12_RecoTrace_1
    rw [Sl.lenV (h0.up hu), OP_some, e_lss, BR_dec, if_pos (by omega), e_lss, BR_dec, if_pos (by omega)]
    apply T_fettlelaw12_RecoTrace_2
    unfold S_fettlelaw12_RecoTrace_2
    obtain ⟨p, p1, p2⟩ := (h0.up hu).at hil
    have hds' : ds ++ [mkD ns[i]] = (ns.take (i + 1)).map mkD := by rw [hds, List.take_succ_eq_append_getElem hil, List.map_append]; rfl
    generalize hxe : ns[i] = x at *
    rw [p1, OP_some, p2, OP_some]
    have hml := mkD_len x
    have hmb := mkD_bytes x
    refine (Done12_ok M x).mono fun v33 M1 ⟨u1, h33⟩ => ?_
    refine (Done_ok h33 (by omega) (by omega)).mono fun v34 M2 ⟨u2, h34⟩ => ?_
    have q2 : Up M M2 := Ch.up u1 u2
    refine (RPut_ok (Sl.up h7.by q2) h34.by (by omega) (by omega)).mono fun v35 M3 ⟨u3, h35⟩ => ?_
    have q3 : Up M M3 := q2.trans u3
    obtain ⟨p', p1', p2'⟩ := (h0.up (Ch.up hu q3)).at hil
    have hpp : p' = p := by rw [p1] at p1'; injection p1' with h; exact h.symm
    subst hpp
    rw [hxe] at p2'
    rw [OP_some, p2', OP_some]
    refine (Done12_ok M3 x).mono fun v41 M4 ⟨u4, h41⟩ => ?_
    obtain ⟨ad, n, c, rfl, hb⟩ := h41
    show OP (bldL (.agg dnz) 4 1 [(0, dpv (mkD x, ad, n, c))]) _
    rw [e_litD, LT_eq]
    have q4 : Up M M4 := q3.trans u4
    have r2 : Up M0 M2 := Ch.up hu q2
    have hN4 : N M0 M4 v35 (frD ds ++ frm (doneF (mkD x))) := Nw.up (Nw.base h35 r2.n) u4
    refine NDs.app1 (Ch.up hu q4) (h8.up q4) (mkD x, ad, n, c) hb (by have := congrArg List.length hps; simp at this; omega) fun v43 M6 u6 h6 c6 k6 => ?_
    have hN6 : N M0 M6 v35 (frD ds ++ frm (doneF (mkD x))) := Nw.keep hN4 ne_dn k6
    have h96 : NIs M0 M6 v9 (endsD ds) := Nw.keep (Nw.up h9 q4) ne_id k6
    rw [hN6.sl.lenV, OP_some, e_lit1, LT_eq]
    have ul := Up.push M6 (some (.inl ([Value.int .i64 ((frD ds ++ frm (doneF (mkD x))).length : Int)], Ty.int, true)))
    have hl : Nw 1 Ty.int M6 (M6.push (some (.inl ([Value.int .i64 ((frD ds ++ frm (doneF (mkD x))).length : Int)], Ty.int, true)))) (.slice (some ⟨M6.n, 0, none⟩) 1 1) 1 [Value.int .i64 ((frD ds ++ frm (doneF (mkD x))).length : Int)] := Nw.lit (n := 1) (Nat.le_refl _) rfl
    generalize M6.push (some (.inl ([Value.int .i64 ((frD ds ++ frm (doneF (mkD x))).length : Int)], Ty.int, true))) = M7 at *
    have h97 := Nw.up h96 ul
    have hel := endsD_len ds
    obtain ⟨v48, M8, e8, u8, h98, hn8, hf8, c8⟩ := Nw.appV (Ch.up u6 ul) h97 hl.sl (by omega)
    rw [e8, OP2_some, e_add, w64 (by omega) (by omega)]
    have k8 : Keep Ty.int M7 M8 := h97.keeps hn8 hf8
    have hfr : frD (ds ++ [mkD x]) = frD ds ++ frm (doneF (mkD x)) := by rw [frD_append, frD_one]
    refine ih (i + 1) M8 v35 v43 v48 (ps ++ [(mkD x, ad, n, c)]) (ds ++ [mkD x]) (by omega) hds' u8 ?_ ?_ ?_ ?_
    · rw [hfr]; exact Nw.keep (Nw.up hN6 ul) ne_ui k8
    · exact (h6.up ul).keep ne_di ne_ui k8
    · simp [hps]
    · rw [endsD_append, hfr]
      show Nw 1 Ty.int M0 M8 v48 _ _
      rw [List.length_append, List.map_append]
      exact h98

end Go.G

namespace Go.G
open Go.Ab Go.Proofs Go.RowKit
set_option linter.unusedVariables false
set_option linter.unusedSimpArgs false
set_option maxRecDepth 100000

theorem RT_loop2 {x2 v7 v8 v9 : Value} {M : Store} {ds : List Dng} {cut : Nat} (hdl : ds.length ≤ 10) (h9 : Is M v9 (endsD ds)) {Q : Value → Store → Prop}
    (hQ : ∀ c, c ≤ ds.length → (frD (ds.take c)).length ≤ cut → (c < ds.length → cut < (frD (ds.take (c + 1))).length) → P_fettlelaw12_RecoTrace_5 x2 v7 v8 v9 (.int .i64 (cut : Int)) (.int .i64 (c : Int)) M Q) :
    ∀ (k c : Nat), k + c = ds.length → (frD (ds.take c)).length ≤ cut → P_fettlelaw12_RecoTrace_4 x2 v7 v8 v9 (.int .i64 (cut : Int)) (.int .i64 (c : Int)) M Q := by
  intro k
  have hel := endsD_len ds
  induction k with
  | zero =>
    intro c hc hcut
    apply T_fettlelaw12_RecoTrace_4
    unfold S_fettlelaw12_RecoTrace_4
    rw [Sl.lenV h9, OP_some, e_lss, BR_dec, if_neg (by omega)]
    exact hQ c (by omega) hcut (by omega)
  | succ k ih =>
    intro c hc hcut
    apply T_fettlelaw12_RecoTrace_4
    unfold S_fettlelaw12_RecoTrace_4
    obtain ⟨p, e1, e2⟩ := h9.at (i := c) (by omega)
    rw [endsD_at] at e2
    rw [Sl.lenV h9, OP_some, e_lss, BR_dec, if_pos (by omega), e1, OP_some, e2, OP_some, e_leq, BR_dec]
    split
    · rw [e_add, w64 (by omega) (by omega)]
      exact ih (c + 1) (by omega) (by omega)
    · exact hQ c (by omega) hcut (by omega)

theorem RT_loop3 {M0 : Store} {x2 : Value} {ns : List Int} (hlen : ns.length ≤ 2 ^ 22) (h0 : Is M0 x2 ns) {Q : Value → Store → Prop} (hQ : ∀ M', Q (.bool true) M') :
    ∀ (k i : Nat) (M : Store) (v7 v8 : Value) (ps : List DP) (ds : List Dng), k + i = min ns.length 5 → OkD ds → ds.length ≤ 10 + i → Up M0 M → N M0 M v7 (frD ds) → NDs M0 M v8 ps → ps.map (·.1) = ds →
      P_fettlelaw12_RecoTrace_6 x2 v7 v8 (.int .i64 (i : Int)) M Q := by
  intro k
  induction k with
  | zero =>
    intro i M v7 v8 ps ds hi hok hdl hu h7 h8 hps
    have hfl := frD_len hok
    have fin : P_fettlelaw12_RecoTrace_8 v7 v8 M Q := by
      apply T_fettlelaw12_RecoTrace_8
      unfold S_fettlelaw12_RecoTrace_8
      refine (Trace_ok h7.by (by omega)).mono fun r M1 ⟨u1, w, qs, hr, hw, hqs⟩ => ?_
      subst hr
      have hs := scan_frD hok []
      rw [List.append_nil, scanF_short [] (by simp), List.append_nil] at hs
      rw [hs, trF_frD hok] at hqs ⊢
      rw [tup2_0, OP_some, tup2_1, OP_some]
      have hql : qs.length ≤ 2 ^ 24 := by have := congrArg List.length hqs; simp at this; omega
      refine (SameDones_ok hw.ds (h8.ds.up u1) hql).mono fun r M2 ⟨u2, hr⟩ => ?_
      subst hr
      rw [BR_dec, if_pos (by rw [hqs, hps]), h7.sl.lenV, OP_some, e_eql, BR_dec, if_pos rfl]
      refine (awake12_ok M2).mono fun v M3 ⟨u3, hv⟩ => ?_
      subst hv; exact ⟨rfl, hQ _⟩
    apply T_fettlelaw12_RecoTrace_6
    unfold S_fettlelaw12_RecoTrace_6
    rw [Sl.lenV (h0.up hu), OP_some, e_lss, BR_dec]
    split
    · rename_i g1
      rw [e_lss, BR_dec, if_neg (by omega)]; exact fin
    · exact fin
  | succ k ih =>
    intro i M v7 v8 ps ds hi hok hdl hu h7 h8 hps
    have hil : i < ns.length := by omega
    have hfl := frD_len hok
    apply T_fettlelaw12_RecoTrace_6
    unfold S_fettlelaw12_RecoTrace_6
    rw [Sl.lenV (h0.up hu), OP_some, e_lss, BR_dec, if_pos (by omega), e_lss, BR_dec, if_pos (by omega)]
    apply T_fettlelaw12_RecoTrace_7
    unfold S_fettlelaw12_RecoTrace_7
    obtain ⟨p, p1, p2⟩ := (h0.up hu).at hil
    generalize hxe : ns[i] = x at *
    rw [p1, OP_some, p2, OP_some]
    have hml := mkD_len x
    have hmb := mkD_bytes x
    refine (Done12_ok M x).mono fun v33 M1 ⟨u1, h33⟩ => ?_
    refine (Done_ok h33 (by omega) (by omega)).mono fun v34 M2 ⟨u2, h34⟩ => ?_
    have q2 : Up M M2 := Ch.up u1 u2
    refine (RPut_ok (Sl.up h7.by q2) h34.by (by omega) (by omega)).mono fun v35 M3 ⟨u3, h35⟩ => ?_
    have q3 : Up M M3 := q2.trans u3
    obtain ⟨p', p1', p2'⟩ := (h0.up (Ch.up hu q3)).at hil
    have hpp : p' = p := by rw [p1] at p1'; injection p1' with h; exact h.symm
    subst hpp
    rw [hxe] at p2'
    rw [OP_some, p2', OP_some]
    refine (Done12_ok M3 x).mono fun v41 M4 ⟨u4, h41⟩ => ?_
    obtain ⟨ad, n, c, rfl, hb⟩ := h41
    show OP (bldL (.agg dnz) 4 1 [(0, dpv (mkD x, ad, n, c))]) _
    rw [e_litD, LT_eq]
    have q4 : Up M M4 := q3.trans u4
    have r2 : Up M0 M2 := Ch.up hu q2
    have hN4 : N M0 M4 v35 (frD ds ++ frm (doneF (mkD x))) := Nw.up (Nw.base h35 r2.n) u4
    refine NDs.app1 (Ch.up hu q4) (h8.up q4) (mkD x, ad, n, c) hb (by have := congrArg List.length hps; simp at this; omega) fun v43 M6 u6 h6 c6 k6 => ?_
    have hN6 : N M0 M6 v35 (frD ds ++ frm (doneF (mkD x))) := Nw.keep hN4 ne_dn k6
    have hfr : frD (ds ++ [mkD x]) = frD ds ++ frm (doneF (mkD x)) := by rw [frD_append, frD_one]
    rw [e_add, w64 (by omega) (by omega)]
    refine ih (i + 1) M6 v35 v43 (ps ++ [(mkD x, ad, n, c)]) (ds ++ [mkD x]) (by omega) ?_ (by simp; omega) u6 ?_ h6 (by simp [hps])
    · intro d hd
      rcases List.mem_append.1 hd with hd | hd
      · exact hok d hd
      · simp only [List.mem_singleton] at hd; subst hd; exact ⟨mkD_ok x, mkD_bytes x⟩
    · rw [hfr]; exact hN6

theorem dcells_take : ∀ (ps : List DP) (c : Nat), (dcells ps).take (c * 4) = dcells (ps.take c)
  | [], c => by simp [dcells]
  | p :: r, 0 => by simp [dcells]
  | p :: r, c + 1 => by
    rw [dcells_cons, List.take_succ_cons, dcells_cons, ← dcells_take r c, show (c + 1) * 4 = 4 + c * 4 by omega]
    have : (dpc p).length = 4 := rfl
    rw [List.take_append, this, List.take_of_length_le (by omega)]; simp
theorem Ds.cut {M v ps} (h : Ds M v ps) {c : Nat} (hc : c ≤ ps.length) : ∃ v', slV 4 Ty.api_Done v none (some (.int .i64 (c : Int))) M = some v' ∧ Ds M v' (ps.take c) := by
  obtain ⟨v', e, hv⟩ := h.1.cut (lo := none) (hi := some (.int .i64 (c : Int))) (l := 0) (r := c) (abound_nat hc) rfl hc (Nat.zero_le _)
  refine ⟨v', e, ?_, fun p hp => h.2 p (List.mem_of_mem_take hp)⟩
  have hl : (ps.take c).length = c := by simp; omega
  rw [hl, ← dcells_take]
  simpa using hv

end Go.G

namespace Go.G
open Go.Ab Go.Proofs Go.RowKit
set_option linter.unusedVariables false
set_option linter.unusedSimpArgs false
set_option maxRecDepth 100000

theorem frD_take {ds : List Dng} (c : Nat) : (frD ds).take (frD (ds.take c)).length = frD (ds.take c) := by
  have hsplit : frD ds = frD (ds.take c) ++ frD (ds.drop c) := by rw [← frD_append, List.take_append_drop]
  rw [hsplit, List.take_left' rfl]

theorem RT_five {M0 M : Store} {x2 v7 v8 v9 : Value} {ms : List Int} (hms : ms.length ≤ 2 ^ 22) (h2 : Is M x2 ms) {ds : List Dng} {ps : List DP} {c cut : Nat} (hok : OkD ds) (hdl : ds.length ≤ 10) (h7 : N M0 M v7 (frD ds)) (h8 : NDs M0 M v8 ps) (hps : ps.map (·.1) = ds) (h9 : Is M v9 (endsD ds))
    (hc : c ≤ ds.length) (g1 : (frD (ds.take c)).length ≤ cut) (g2 : c < ds.length → cut < (frD (ds.take (c + 1))).length) (g3 : cut ≤ (frD ds).length) {Q : Value → Store → Prop} (hQ : ∀ M', Q (.bool true) M') :
    P_fettlelaw12_RecoTrace_5 x2 v7 v8 v9 (.int .i64 (cut : Int)) (.int .i64 (c : Int)) M Q := by
  have hfl := frD_len hok
  have hel := endsD_len ds
  have hpl : ps.length = ds.length := by have := congrArg List.length hps; simpa using this
  apply T_fettlelaw12_RecoTrace_5
  unfold S_fettlelaw12_RecoTrace_5
  obtain ⟨w72, e72, h72⟩ := By.cut h7.by (lo := none) (hi := some (.int .i64 (cut : Int))) (a := 0) (r := cut) (abound_nat g3) rfl g3 (Nat.zero_le _)
  rw [List.drop_zero] at h72
  rw [e72, OP_some]
  refine (Trace_ok h72 (by simp; omega)).mono fun r M1 ⟨u1, w, qs, hr, hw, hqs⟩ => ?_
  subst hr
  rw [tr_cut hok hc g1 g2 g3] at hqs ⊢
  rw [tup2_0, OP_some, tup2_1, OP_some]
  obtain ⟨v79, e79, h79⟩ := (h8.ds.up u1).cut (c := c) (by omega)
  rw [e79, OP_some]
  have hql : qs.length ≤ 2 ^ 24 := by have := congrArg List.length hqs; simp at this; omega
  refine (SameDones_ok hw.ds h79 hql).mono fun r M2 ⟨u2, hr⟩ => ?_
  subst hr
  have hsame : qs.map (·.1) = (ps.take c).map (·.1) := by rw [hqs, List.map_take, hps]
  have u12 : Up M M2 := Ch.up u1 u2
  have hL : (frD (ds.take c)).length ≤ (frD ds).length := by omega
  rw [decide_eq_true hsame, e_not, BR_bool, if_neg (by simp), e_gtr, BR_dec, if_neg (by omega), e_gtr, BR3_dec]
  have tail : OP (bldL (.int .u8 0) 1 0 []) fun c_ =>
      LT (.slice (some ⟨M2.n, 0, none⟩) 0 0) (M2.push (some (.inl (c_, Ty.uint8, true)))) fun t108 M3 =>
      OP (slV 1 Ty.uint8 v7 none (some (.int .i64 ((frD (ds.take c)).length : Int))) M3) fun t111 =>
      OP2 (appV 1 Ty.uint8 t108 t111 M3) fun t112 M4 =>
      OP (bldL (.agg #[(.string ⟨#[]⟩), (.int .i64 0), (.int .i64 0), (.slice none 0 0)]) 4 0 []) fun c_1 =>
      LT (.slice (some ⟨M4.n, 0, none⟩) 0 0) (M4.push (some (.inl (c_1, Ty.api_Done, true)))) fun t113 M5 =>
      OP (slV 4 Ty.api_Done v8 none (some (.int .i64 (c : Int))) M5) fun t116 =>
      OP2 (appV 4 Ty.api_Done t113 t116 M5) fun t117 M6 =>
      P_fettlelaw12_RecoTrace_6 x2 t112 t117 (.int .i64 0) M6 Q := by
    rw [e_lit0, LT_eq]
    have u3 := Up.push M2 (some (.inl (([] : List Value), Ty.uint8, true)))
    have hn : N M2 (M2.push (some (.inl (([] : List Value), Ty.uint8, true)))) (.slice (some ⟨M2.n, 0, none⟩) 0 0) [] := Nw.lit (n := 0) (cs := []) (Nat.le_refl _) (by simp)
    generalize M2.push (some (.inl (([] : List Value), Ty.uint8, true))) = M3 at *
    obtain ⟨w, ew, hw⟩ := By.cut (Sl.up (Sl.up h7.by u12) u3) (lo := none) (hi := some (.int .i64 ((frD (ds.take c)).length : Int))) (a := 0) (r := (frD (ds.take c)).length) (abound_nat hL) rfl hL (Nat.zero_le _)
    rw [List.drop_zero, frD_take] at hw
    rw [ew, OP_some]
    obtain ⟨v4, M4, e4, u4, h4, _⟩ := NB.app u3 hn hw (by simp; omega)
    rw [e4, OP2_some]
    rw [List.nil_append] at h4
    have ez : ∀ K : List Value → Prop, OP (bldL (.agg #[(.string ⟨#[]⟩), (.int .i64 0), (.int .i64 0), (.slice none 0 0)]) 4 0 []) K = K [] := fun K => by kernel_rfl
    rw [ez, LT_eq]
    have u5 := Up.push M4 (some (.inl (([] : List Value), Ty.api_Done, true)))
    have hn5 : Nw 4 Ty.api_Done M2 (M4.push (some (.inl (([] : List Value), Ty.api_Done, true)))) (.slice (some ⟨M4.n, 0, none⟩) 0 0) 0 [] := Nw.lit (n := 0) (cs := []) u4.n (by simp)
    generalize M4.push (some (.inl (([] : List Value), Ty.api_Done, true))) = M5 at *
    have q5 : Up M2 M5 := Ch.up u4 u5
    obtain ⟨v6, e6, h6⟩ := (h8.ds.up (Ch.up u12 q5)).cut (c := c) (by omega)
    rw [e6, OP_some]
    obtain ⟨v7', M7, e7, u7, h7', hn7, hf7, c7⟩ := Nw.appV q5 hn5 h6.1 (by simp; omega)
    rw [e7, OP2_some]
    have k7 : Keep Ty.api_Done M5 M7 := hn5.keeps hn7 hf7
    have hN7 : N M2 M7 v4 (frD (ds.take c)) := Nw.keep (Nw.up h4 u5) ne_dn k7
    have hD7 : NDs M2 M7 v7' (ps.take c) := by
      refine ⟨?_, fun p hp => Sl.keep (h6.2 p hp) ne_dn k7⟩
      have := h7'
      rw [List.nil_append, Nat.zero_add] at this
      exact this
    refine RT_loop3 (M0 := M2) hms (h2.up u12) hQ (min ms.length 5) 0 M7 v4 v7' (ps.take c) (ds.take c) rfl (hok.take c) (by simp; omega) u7 hN7 hD7 (by rw [List.map_take, hps])
  split
  · rename_i hpos
    have hc1 : (c : Int) - 1 = ((c - 1 : Nat) : Int) := by omega
    obtain ⟨p, p1, p2⟩ := (h9.up u12).at (i := c - 1) (by omega)
    rw [endsD_at, show c - 1 + 1 = c by omega] at p2
    rw [e_sub, w64 (by omega) (by omega), hc1, p1, OP_some, p2, OP_some, e_neq, BR_dec, if_neg (by simp), e_eql, BR3_dec, if_neg (by omega)]
    exact tail
  · rename_i hpos
    have hc0 : c = 0 := by omega
    subst hc0
    rw [e_eql, BR3_dec, if_pos (show ((0 : Nat) : Int) = 0 from rfl), e_neq, BR_dec, if_neg (by simp [frD])]
    exact tail

theorem RecoTrace_ok {M : Store} {v0 v2 : Value} {ns ms : List Int} {n1 : Int} (hn : Is M v0 ns) (hm : Is M v2 ms) (b1 : -9223372036854775808 ≤ n1 ∧ n1 ≤ 9223372036854775807) (l0 : ns.length ≤ 2 ^ 22) (l2 : ms.length ≤ 2 ^ 22) :
    R F.fettlelaw12_RecoTrace #[v0, .int .i64 n1, v2] M fun v M' => v = .bool true := by
  refine R.cps fun Q hQ => ?_
  apply T_fettlelaw12_RecoTrace
  unfold S_fettlelaw12_RecoTrace
  have e0 : endsD [] = [] := rfl
  have f0 : frD [] = [] := rfl
  refine RT_loop1 (M0 := M) l0 hn (fun M1 v7 v8 v9 ps ds hu hok hdl h7 h8 hps h9 => ?_) (min ns.length 10) 0 M (.slice none 0 0) (.slice none 0 0) (.slice none 0 0) [] [] rfl (by simp) (Ch.refl _ _) (Nw.nil _ _ _ _) (NDs.nil _ _) rfl (Nw.nil _ _ _ _)
  apply T_fettlelaw12_RecoTrace_3
  unfold S_fettlelaw12_RecoTrace_3
  have hfl := frD_len hok
  obtain ⟨k, hk, ek⟩ := e_and16 n1 b1.1 b1.2
  have e1 : ((frD ds).length : Int) + 1 = (((frD ds).length + 1 : Nat) : Int) := by omega
  rw [ek, OP_some, h7.sl.lenV, OP_some, e_add, w64 (by omega) (by omega), e1, e_rem _ _ (by omega), OP_some]
  have hlt : k % ((frD ds).length + 1) < (frD ds).length + 1 := Nat.mod_lt _ (by omega)
  generalize k % ((frD ds).length + 1) = cut at *
  have h9' : Is M1 v9 (endsD ds) := Nw.sl h9
  exact RT_loop2 hdl h9' (fun c hc g1 g2 => RT_five l2 (hm.up hu) hok hdl h7 h8 hps h9' hc g1 g2 (by omega) fun M' => hQ _ _ rfl) ds.length 0 rfl (by simp [frD])

end Go.G

namespace Go.G
open Go.Ab Go.Proofs Go.RowKit
set_option linter.unusedVariables false
set_option linter.unusedSimpArgs false
set_option maxRecDepth 100000

theorem lkO_lk (o : Option (Nat × Nat × Nat × Nat)) : ∃ a b c d : Int, lkO o = lkv a b c d := by
  cases o with
  | none => exact ⟨0, 0, 0, 0, rfl⟩
  | some p => obtain ⟨a, b, c, d⟩ := p; exact ⟨a, b, c, d, rfl⟩

theorem RL_loop {x : Value} {xs : List (List UInt8)} (hxs : ∀ x ∈ xs, x.length ≤ 2 ^ 24) (hxl : xs.length ≤ 100) {Q : Value → Store → Prop} (hQ : ∀ M', Q (.bool true) M') :
    ∀ (k i : Nat) (M : Store), k + i = xs.length → BB M x xs →
    P_fettlelaw12_RecoTells_7 x (.int .i64 (xs.length : Int)) (.int .i64 (i : Int)) M Q := by
  intro k
  induction k with
  | zero =>
    intro i M hi hls
    apply T_fettlelaw12_RecoTells_7
    unfold S_fettlelaw12_RecoTells_7
    rw [e_lss, BR_dec, if_neg (by omega)]
    apply T_fettlelaw12_RecoTells_9
    unfold S_fettlelaw12_RecoTells_9
    refine (awake12_ok M).mono fun v M2 ⟨hu2, hv⟩ => ?_
    subst hv; exact ⟨rfl, hQ _⟩
  | succ k ih =>
    intro i M hi hls
    apply T_fettlelaw12_RecoTells_7
    unfold S_fettlelaw12_RecoTells_7
    rw [e_lss, BR_dec, if_pos (by omega)]
    apply T_fettlelaw12_RecoTells_8
    unfold S_fettlelaw12_RecoTells_8
    obtain ⟨p, q, p1, p2, p3⟩ := hls.at (i := i) (by omega) .i64
    have hl := hxs _ (List.getElem_mem (show i < xs.length by omega))
    generalize hl : xs[i]'(by omega) = l at *
    have p3 : B M q l := p3
    have hll : l.length ≤ 2 ^ 24 := by assumption
    rw [p1, OP_some, p2, OP_some]
    refine (OpenLock_ok p3 hll).mono fun r1 M1 ⟨u1, hr1⟩ => ?_
    obtain ⟨a, b, c, d, hlk⟩ := lkO_lk (openLockF l)
    rw [hlk] at hr1
    subst hr1
    rw [tup2_0, OP_some, tup2_1, OP_some, LT_eq]
    refine mk4 (lk_cells _ _ _ _) (lk_one _ _ _ _) fun M3 u3 o3 n3 => ?_
    have q3 : Up M M3 := Ch.up u1 u3
    refine (ROpenLock_ok (Sl.up p3 q3) hll).mono fun r4 M4 ⟨u4, hr4⟩ => ?_
    rw [hlk] at hr4
    subst hr4
    rw [tup2_0, OP_some, tup2_1, OP_some, LT_eq]
    refine mk4 (lk_cells _ _ _ _) (lk_one _ _ _ _) fun M6 u6 o6 n6 => ?_
    have q6 : Up M M6 := Ch.up q3 (Ch.up u4 u6)
    refine (OpenDone_ok (Sl.up p3 q6) hll).mono fun r7 M7 ⟨u7, w7, hr7, hw7⟩ => ?_
    subst hr7
    obtain ⟨a7, n7, c7, rfl, hb7⟩ := hw7
    rw [tup2_0, OP_some, tup2_1, OP_some, LT_eq]
    refine mk4 (dn_cells _ _ _ _ _ _) (dn_one _ _ _ _ _ _) fun M9 u9 o9 n9 => ?_
    have q9 : Up M M9 := Ch.up q6 (Ch.up u7 u9)
    refine (ROpenDone_ok (Sl.up p3 q9) hll).mono fun r10 M10 ⟨u10, w10, hr10, hw10⟩ => ?_
    subst hr10
    obtain ⟨a10, n10, c10, rfl, hb10⟩ := hw10
    rw [tup2_0, OP_some, tup2_1, OP_some, LT_eq]
    refine mk4 (dn_cells _ _ _ _ _ _) (dn_one _ _ _ _ _ _) fun M12 u12 o12 n12 => ?_
    have q12 : Up M M12 := Ch.up q9 (Ch.up u10 u12)
    refine (Trace_ok (Sl.up p3 q12) hll).mono fun r13 M13 ⟨u13, w13, ps, hr13, hw13, hps⟩ => ?_
    subst hr13
    rw [tup2_0, OP_some, tup2_1, OP_some]
    refine (RTrace_ok (Sl.up p3 (Ch.up q12 u13)) hll).mono fun r14 M14 ⟨u14, w14, qs, hr14, hw14, hqs⟩ => ?_
    subst hr14
    have s12 : Up M12 M14 := Ch.up u13 u14
    have s9 : Up M9 M14 := Ch.up (Ch.up u10 u12) s12
    have s6 : Up M6 M14 := Ch.up (Ch.up u7 u9) s9
    have s3 : Up M3 M14 := Ch.up (Ch.up u4 u6) s6
    have e3 : ld 4 true (.pointer (some ⟨M1.n, 0, none⟩)) M14 = some (lkv a b c d) := (o3.up s3).ldA (s := 4) rfl
    have e6 : ld 4 true (.pointer (some ⟨M4.n, 0, none⟩)) M14 = some (lkv a b c d) := (o6.up s6).ldA (s := 4) rfl
    have e9 : ld 4 true (.pointer (some ⟨M7.n, 0, none⟩)) M14 = some (dnv ((openDoneF l).getD noDng).1 ((openDoneF l).getD noDng).2.1 ((openDoneF l).getD noDng).2.2.1 a7 n7 c7) := (o9.up s9).ldA (s := 4) rfl
    have e12 : ld 4 true (.pointer (some ⟨M10.n, 0, none⟩)) M14 = some (dnv ((openDoneF l).getD noDng).1 ((openDoneF l).getD noDng).2.1 ((openDoneF l).getD noDng).2.2.1 a10 n10 c10) := (o12.up s12).ldA (s := 4) rfl
    rw [tup2_0, OP_some, tup2_1, OP_some, e3, OP_some, e6, OP_some, abin_lk_ne, OP_some, BR_bool, if_neg (by simp), abin_bool_ne, OP_some, BR_bool, if_neg (by simp), e9, OP_some, e12, OP_some]
    have hD9 : Dn M14 (dnv ((openDoneF l).getD noDng).1 ((openDoneF l).getD noDng).2.1 ((openDoneF l).getD noDng).2.2.1 a7 n7 c7) ((openDoneF l).getD noDng) := ⟨_, _, _, rfl, Sl.up (Sl.up hb7 u9) s9⟩
    have hD12 : Dn M14 (dnv ((openDoneF l).getD noDng).1 ((openDoneF l).getD noDng).2.1 ((openDoneF l).getD noDng).2.2.1 a10 n10 c10) ((openDoneF l).getD noDng) := ⟨_, _, _, rfl, Sl.up (Sl.up hb10 u12) s12⟩
    refine (SameDone_ok hD9 hD12).mono fun r15 M15 ⟨u15, hr15⟩ => ?_
    subst hr15
    have htl : ∀ xs : List (List UInt8), (trF xs).1.length ≤ xs.length := by
      intro xs
      induction xs with
      | nil => simp [trF]
      | cons x r ih => cases ho : openDoneF x with
        | none => rw [trF_none ho]; simp
        | some d => rw [trF_some ho]; simp; exact ih
    have hpl : ps.length ≤ 2 ^ 24 := by
      have h1 := congrArg List.length hps
      have h2 := htl (scanF l)
      have h3 := scanF_count l
      simp at h1; omega
    rw [decide_eq_true rfl, e_not, BR_bool, if_neg (by simp), abin_bool_ne, OP_some, BR_bool, if_neg (by simp)]
    refine (SameDones_ok (hw13.ds.up (Ch.up u14 u15)) (hw14.ds.up u15) hpl).mono fun r16 M16 ⟨u16, hr16⟩ => ?_
    subst hr16
    rw [decide_eq_true (by rw [hps, hqs]), e_not, BR_bool, if_neg (by simp), e_neq, BR_dec, if_neg (by simp), e_add, w64 (by omega) (by omega)]
    exact ih (i + 1) M16 (by omega) (hls.up By.up' (Ch.up (Ch.up q12 s12) (Ch.up u15 u16)))

end Go.G

namespace Go.G
open Go.Ab Go.Proofs Go.RowKit
set_option linter.unusedVariables false
set_option linter.unusedSimpArgs false
set_option maxRecDepth 100000

theorem agrow_val {base : Option Addr} {n cap s : Nat} {e : TypeId} {m : Nat} {ys : List Value} {M M' : Store} {v' : Value} (h : agrow base n cap s e m ys M = some (v', M')) : v' = .slice (some ⟨M.n, 0, none⟩) (n + m) (n + m + 1) := by
  unfold agrow at h
  split at h
  · split at h
    · injection h with h; injection h with h1 h2; exact h1.symm
    · cases h
  · split at h
    · split at h
      · injection h with h; injection h with h1 h2; exact h1.symm
      · obtain ⟨old, _, h⟩ := Option.bind_eq_some_iff.1 h
        injection h with h; injection h with h1 h2; exact h1.symm
    · split at h
      · split at h
        · split at h
          · injection h with h; injection h with h1 h2; exact h1.symm
          · cases h
        · cases h
      · cases h
  · cases h

theorem appV_val {s : Nat} {e e' : TypeId} {a : Option Addr} {n c : Nat} {x : Value} {m : Nat} {ys : List Value} {M M' : Store} {v' : Value} (hx : Sl s e' M x m ys) (hm : 0 < m) (h : appV s e (.slice a n c) x M = some (v', M')) : v' = .slice (some ⟨M.n, 0, none⟩) (n + m) (n + m + 1) := by
  simp only [Go.Ab.appV, hx.newV, Option.bind_some, Go.Ab.appG, if_neg (show ¬ m = 0 by omega)] at h
  split at h
  · exact agrow_val h
  · cases h
theorem Sl.chN {s : Nat} {e : TypeId} {M M' : Store} {a : Option Addr} {n m c : Nat} {cs : List Value} (h : Sl s e M (.slice a n c) m cs) {S : List Nat} (k : Ch S M M') (hS : ∀ x, a = some x → x.block ∉ S) : Sl s e M' (.slice a n c) m cs := by
  obtain ⟨h1, a', c', h2, h3, h4⟩ := h
  injection h2 with h2 h5 h6
  subst h2; subst h5; subst h6
  refine ⟨h1, a, c, rfl, h3, fun hn => ?_⟩
  obtain ⟨b, o, cells, e', own, h5, h6, h7⟩ := h4 hn
  exact ⟨b, o, cells, e', own, h5, k.at h6 (hS _ h5), h7⟩
theorem Nw.rebase {s e Mb M v n cs} (h : Nw s e Mb M v n cs) {M0 : Store} (hk : ∀ a k c, v = .slice (some a) k c → M0.n ≤ a.block) : Nw s e M0 M v n cs := by
  obtain ⟨h1, h | ⟨b, cells, c, rfl, h2, h3, h4⟩⟩ := h
  · exact ⟨h1, .inl h⟩
  · exact ⟨h1, .inr ⟨b, cells, c, rfl, hk _ _ _ rfl, h3, h4⟩⟩
theorem tdx_kl {bs Ns : List Nat} {i : Nat} {v : Value} {M M' : Store} (h : Ch (kl v) M M') (hk : ∀ b, kil v = some b → (M.get b).isSome = true ∧ b < Ns.getD 0 0) : TDx bs Ns i M M' := by
  refine ⟨h.n, fun c hc => ?_⟩
  rcases h.tdiff c hc with h1 | h1
  · exact .inl h1
  · have h2 : kil v = some c := by
      cases hk' : kil v with
      | none => simp [kl, hk'] at h1
      | some d => simp [kl, hk'] at h1; rw [h1]
    obtain ⟨h3, h4⟩ := hk c h2
    refine .inr ⟨h3, ?_⟩
    rw [accB, decide_eq_true h4]; rfl

end Go.G

namespace Go.G
open Go.Ab Go.Proofs Go.RowKit
set_option linter.unusedVariables false
set_option linter.unusedSimpArgs false
set_option maxRecDepth 100000

theorem BB.chN {M M' : Store} {a : Option Addr} {n c : Nat} {ls : List (List UInt8)} (h : BB M (.slice a n c) ls) {S : List Nat} (k : Ch S M M') (hS : ∀ x, a = some x → x.block ∉ S) (hk : Keep Ty.sl_uint8 M M') : BB M' (.slice a n c) ls := by
  obtain ⟨vs, h1, h2⟩ := h
  exact ⟨vs, Sl.chN h1 k hS, h2.mono fun v x hx => Sl.keep hx ne_bb hk⟩

theorem RL_grow {Mb : Store} {m3 : Nat} (hm3 : Mb.n ≤ m3) {a1 : Option Addr} {k1 c1 : Nat} (ha1 : ∀ x, a1 = some x → x.block < m3) {n4 : Int} (b4 : -9223372036854775808 ≤ n4 ∧ n4 ≤ 9223372036854775807) (y : UInt8) {ls : List (List UInt8)} (hls : ls.length ≤ 3) (hll : ∀ x ∈ ls, x.length ≤ 2 ^ 22) {Q : Value → Store → Prop} (hQ : ∀ M', Q (.bool true) M') :
    ∀ (k i : Nat) (M : Store) (x15 : Value) (xs : List (List UInt8)), k + i = ls.length → Up Mb M → m3 ≤ M.n → BB M (.slice a1 k1 c1) ls → NLs B Ty.sl_uint8 Mb M x15 xs → (∀ j, kil x15 = some j → m3 ≤ j) → xs.length ≤ 4 + 3 * i → (∀ x ∈ xs, x.length ≤ 2 ^ 23) →
      P_fettlelaw12_RecoTells_4 (.int .i64 n4) (bv y) x15 (.slice a1 k1 c1) (.int .i64 (ls.length : Int)) (.int .i64 (i : Int)) M Q := by
  intro k
  induction k with
  | zero =>
    intro i M x15 xs hi hu hm hl hx hk hxl hxs
    apply T_fettlelaw12_RecoTells_4
    unfold S_fettlelaw12_RecoTells_4
    rw [e_lss, BR_dec, if_neg (by omega)]
    apply T_fettlelaw12_RecoTells_6
    unfold S_fettlelaw12_RecoTells_6
    rw [hx.ls.lenV, OP_some]
    exact RL_loop (fun x h => by have := hxs x h; omega) (by omega) hQ xs.length 0 M rfl hx.ls
  | succ k ih =>
    intro i M x15 xs hi hu hm hl hx hk hxl hxs
    apply T_fettlelaw12_RecoTells_4
    unfold S_fettlelaw12_RecoTells_4
    rw [e_lss, BR_dec, if_pos (by omega)]
    apply T_fettlelaw12_RecoTells_5
    unfold S_fettlelaw12_RecoTells_5
    obtain ⟨p, q, p1, p2, p3⟩ := hl.at (i := i) (by omega) .i64
    have hbl := hll _ (List.getElem_mem (show i < ls.length by omega))
    generalize hle : ls[i]'(by omega) = l at *
    have p3 : B M q l := p3
    have hll2 : l.length ≤ 2 ^ 22 := by assumption
    rw [p1, OP_some, p2, OP_some, p3.lenV, OP_some, e_gtr, BR_dec]
    split
    · rename_i hpos
      rw [e_lit0, LT_eq]
      refine copy0 p3 (by omega) fun v2 M2 u2 h2 => ?_
      obtain ⟨kk, hkk, ek⟩ := e_and16 n4 b4.1 b4.2
      rw [ek, OP_some, h2.sl.lenV, OP_some, e_rem _ _ (by omega), OP_some]
      have hlt : kk % l.length < l.length := Nat.mod_lt _ (by omega)
      generalize hix : kk % l.length = ix at *
      obtain ⟨q', M3, e3, e3', u3, h3, _⟩ := N.put u2 h2 hlt .i64 y
      have hlen3 : (l.set ix y).length = l.length := by simp
      have q3 : B M3 q l := Sl.up p3 u3
      obtain ⟨w4, e4, h4⟩ := By.cut q3 (lo := none) (hi := some (.int .i64 (ix : Int))) (a := 0) (r := ix) (abound_nat (by omega)) rfl (by omega) (by omega)
      rw [List.drop_zero] at h4
      rw [e3, OP_some, e3', OP_some, OP_some, OP_some, e_rem _ _ (by omega), hix, OP_some, e4, OP_some, e_lit0, LT_eq]
      have u4 := Up.push M3 (some (.inl (([] : List Value), Ty.uint8, true)))
      have n4' : (M3.push (some (.inl (([] : List Value), Ty.uint8, true)))).n = M3.n + 1 := rfl
      generalize M3.push (some (.inl (([] : List Value), Ty.uint8, true))) = M4 at *
      obtain ⟨v5, M5, e5, hu5, h5, _, _, hc5⟩ := NB.app (Ch.refl [] M4) (N.lit0 M4 M4 (some ⟨M3.n, 0, none⟩) fun x hx => by injection hx with hx; subst hx; rfl) (Sl.up q3 u4) (by simp; omega)
      rw [e5, OP2_some]
      have hc5' : Up M4 M5 := hc5
      refine ⟨hc5'.tdj _ _, ?_⟩
      rw [List.nil_append] at h5
      rw [e_lit1b, LT_eq]
      have u6 := Up.push M5 (some (.inl ([bv y], Ty.uint8, true)))
      have h6 : N M5 (M5.push (some (.inl ([bv y], Ty.uint8, true)))) (.slice (some ⟨M5.n, 0, none⟩) 1 1) [y] := Nw.lit (n := 1) (Nat.le_refl _) rfl
      generalize M5.push (some (.inl ([bv y], Ty.uint8, true))) = M6 at *
      obtain ⟨v7, M7, e7, hu7, h7, _, _, hc7⟩ := NB.app (hu5.trans u6) (Nw.up h5 u6) h6.by (by simp; omega)
      rw [e7, OP2_some]
      refine ⟨tdj_app hc7 (j := 11) (by simp) fun b hb => ?_, ?_⟩
      · obtain ⟨g1, g2, g3⟩ := Nw.kil_in h5 hb
        exact ⟨isSome_up u6 g3, g1, g2⟩
      have w7 : Up M3 M7 := Ch.up u4 hu7
      have uM7 : Up M M7 := Ch.up u3 w7
      have g2 : B M7 v2 (l.set ix y) := Sl.up h3.by w7
      have g3 : B M7 w4 (l.take ix) := Sl.up h4 w7
      have g4 : B M7 v7 (l ++ [y]) := h7.by
      obtain ⟨a2, c2, rfl⟩ := g2.slice
      obtain ⟨a3, c3, rfl⟩ := g3.slice
      obtain ⟨a4, c4, rfl⟩ := g4.slice
      rw [e_lit3s, LT_eq]
      have u8 := Up.push M7 (some (.inl ([Value.slice a2 (l.set ix y).length c2, .slice a3 (l.take ix).length c3, .slice a4 (l ++ [y]).length c4], Ty.sl_uint8, true)))
      have h8 : Nw 1 Ty.sl_uint8 M7 (M7.push (some (.inl ([Value.slice a2 (l.set ix y).length c2, .slice a3 (l.take ix).length c3, .slice a4 (l ++ [y]).length c4], Ty.sl_uint8, true)))) (.slice (some ⟨M7.n, 0, none⟩) 3 3) 3 [Value.slice a2 (l.set ix y).length c2, .slice a3 (l.take ix).length c3, .slice a4 (l ++ [y]).length c4] := Nw.lit (n := 3) (Nat.le_refl _) rfl
      generalize M7.push (some (.inl ([Value.slice a2 (l.set ix y).length c2, .slice a3 (l.take ix).length c3, .slice a4 (l ++ [y]).length c4], Ty.sl_uint8, true))) = M8 at *
      have uM8 : Up M M8 := Ch.up uM7 u8
      have nM8 := uM8.n
      obtain ⟨vs, hx1, hx2⟩ := NLs.up By.up' hx uM8
      obtain ⟨ax, cx, rfl⟩ := hx1.sl.slice
      obtain ⟨v9, M9, e9, u9, h9, hn9, hf9, hc9⟩ := Nw.appV (Ch.up hu uM8) hx1 h8.sl (by omega)
      have hv9 := appV_val h8.sl (by omega) e9
      rw [e9, OP2_some]
      have k9 : Keep Ty.sl_uint8 M8 M9 := hx1.keeps hn9 hf9
      refine ⟨tdx_kl hc9 fun b hb => ?_, ?_⟩
      · obtain ⟨g5, g6, g7⟩ := Nw.kil_in (NLs.up By.up' hx (Ch.refl _ _)).choose_spec.1 hb
        exact ⟨isSome_up uM8 g7, Nat.lt_of_lt_of_le g6 u3.n⟩
      rw [e_add, w64 (by omega) (by omega)]
      refine ih (i + 1) M9 v9 (xs ++ [l.set ix y, l.take ix, l ++ [y]]) (by omega) u9 (by omega) ?_ ?_ ?_ (by simp; omega) ?_
      · refine BB.chN (hl.up By.up' uM8) hc9 (fun x hx3 hm => ?_) k9
        have h10 := ha1 x hx3
        cases hk' : kil (.slice ax xs.length cx) with
        | none => simp [kl, hk'] at hm
        | some j => simp [kl, hk'] at hm; have := hk j hk'; omega
      · refine ⟨vs ++ [Value.slice a2 (l.set ix y).length c2, .slice a3 (l.take ix).length c3, .slice a4 (l ++ [y]).length c4], ?_, ?_⟩
        · rw [List.length_append]; exact h9
        · refine Each.append (hx2.mono fun v x h => Sl.keep h ne_bb k9) ⟨?_, ?_, ?_, trivial⟩
          · exact Sl.keep (Sl.up g2 u8) ne_bb k9
          · exact Sl.keep (Sl.up g3 u8) ne_bb k9
          · exact Sl.keep (Sl.up g4 u8) ne_bb k9
      · intro j hj
        rw [hv9] at hj
        simp only [kil] at hj
        split at hj
        · cases hj
        · injection hj with hj; omega
      · intro x hx3
        rcases List.mem_append.1 hx3 with h | h
        · exact hxs x h
        · simp only [List.mem_cons, List.not_mem_nil, or_false] at h
          rcases h with rfl | rfl | rfl <;> simp <;> omega
    · rw [e_add, w64 (by omega) (by omega)]
      exact ih (i + 1) M x15 xs (by omega) hu hm hl hx hk (by omega) hxs

end Go.G

namespace Go.G
open Go.Ab Go.Proofs Go.RowKit
set_option linter.unusedVariables false
set_option linter.unusedSimpArgs false
set_option maxRecDepth 100000

theorem RL_build {M0 : Store} {x2 x3 x4 x5 x6 x7 : Value} {ns : List Int} (hlen : ns.length ≤ 2 ^ 22) (h0 : Is M0 x2 ns) {Q : Value → Store → Prop}
    (hQ : ∀ M' v13 (tr : List UInt8), Up M0 M' → N M0 M' v13 tr → tr.length ≤ 560 → P_fettlelaw12_RecoTells_3 x3 x4 x5 x6 x7 v13 M' Q) :
    ∀ (k i : Nat) (M : Store) (v13 : Value) (tr : List UInt8), k + i = min ns.length 8 → Up M0 M → N M0 M v13 tr → tr.length ≤ 70 * i →
      P_fettlelaw12_RecoTells_1 x2 x3 x4 x5 x6 x7 v13 (.int .i64 (i : Int)) M Q := by
  intro k
  induction k with
  | zero =>
    intro i M v13 tr hi hu h htr
    have fin := hQ M v13 tr hu h (by omega)
    apply T_fettlelaw12_RecoTells_1
    unfold S_fettlelaw12_RecoTells_1
    rw [Sl.lenV (h0.up hu), OP_some, e_lss, BR_dec]
    split
    · rename_i g1
      rw [e_lss, BR_dec, if_neg (by omega)]; exact fin
    · exact fin
  | succ k ih =>
    intro i M v13 tr hi hu h htr
    have hil : i < ns.length := by omega
    apply T_fettlelaw12_RecoTells_1
    unfold S_fettlelaw12_RecoTells_1
    rw [Sl.lenV (h0.up hu), OP_some, e_lss, BR_dec, if_pos (by omega), e_lss, BR_dec, if_pos (by omega)]
    apply T_fettlelaw12_RecoTells_2
    unfold S_fettlelaw12_RecoTells_2
    obtain ⟨p, p1, p2⟩ := (h0.up hu).at hil
    generalize hxe : ns[i] = x at *
    rw [p1, OP_some, p2, OP_some]
    have hml := mkD_len x
    have hmb := mkD_bytes x
    refine (Done12_ok M x).mono fun v1 M1 ⟨u1, h1⟩ => ?_
    refine (RDone_ok h1 (by omega) (by omega)).mono fun v2 M2 ⟨u2, h2⟩ => ?_
    have q2 : Up M M2 := Ch.up u1 u2
    refine (RPut_ok (Sl.up h.by q2) h2.by (by omega) (by omega)).mono fun v3 M3 ⟨u3, h3⟩ => ?_
    have q3 : Up M M3 := q2.trans u3
    have r2 : Up M0 M2 := Ch.up hu q2
    have r3 : Up M0 M3 := Ch.up hu q3
    have h3' : N M0 M3 v3 (tr ++ frm (doneF (mkD x))) := Nw.base h3 r2.n
    have hf := frm_length (doneF (mkD x))
    obtain ⟨p', p1', p2'⟩ := (h0.up r3).at hil
    have hpp : p' = p := by rw [p1] at p1'; injection p1' with h; exact h.symm
    subst hpp
    rw [hxe] at p2'
    have es28 : ∀ K : Value → Prop, OP (binI .shr (.int .i64 x) (.int .u64 28)) K = K (.int .i64 (shrN x 28)) := e_shrN x 28 (by omega)
    have ea28 : binI .and (.int .i64 (shrN x 28)) (.int .i64 3) = some (.int .i64 (andN (shrN x 28) 3 : Int)) := e_andN _ 3 (by omega)
    rw [OP_some, p2', OP_some, es28, ea28, OP_some, e_eql, BR_dec]
    split
    · have e2 : ∀ K : List Value → Prop, OP (bldL (.int .u8 0) 1 2 [(0, (.int .u8 1)), (1, (.int .u8 2))]) K = K [bv 1, bv 2] := fun K => by kernel_rfl
      rw [e2, LT_eq]
      have u4 := Up.push M3 (some (.inl ([bv 1, bv 2], Ty.uint8, true)))
      have h4 : N M3 (M3.push (some (.inl ([bv 1, bv 2], Ty.uint8, true)))) (.slice (some ⟨M3.n, 0, none⟩) 2 2) [1, 2] := Nw.lit (n := 2) (Nat.le_refl _) rfl
      generalize M3.push (some (.inl ([bv 1, bv 2], Ty.uint8, true))) = M4 at *
      refine (RPut_ok (Sl.up h3.by u4) h4.by (by simp; omega) (by simp)).mono fun v5 M5 ⟨u5, h5⟩ => ?_
      have hf2 := frm_length [1, 2]
      rw [e_add, w64 (by omega) (by omega)]
      have r4 : Up M0 M4 := Ch.up r3 u4
      exact ih (i + 1) M5 v5 _ (by omega) (Ch.up r4 u5) (Nw.base h5 r4.n) (by simp only [List.length_append, hf, hf2, List.length_cons, List.length_nil]; omega)
    · rw [e_add, w64 (by omega) (by omega)]
      exact ih (i + 1) M3 v3 _ (by omega) r3 h3' (by rw [List.length_append, hf]; omega)

theorem e_lit4s (z : Value) (a b c d : Option Addr) (n1 c1 n2 c2 n3 c3 n4 c4 : Nat) (K : List Value → Prop) : OP (bldL z 1 4 [(0, .slice a n1 c1), (1, .slice b n2 c2), (2, .slice c n3 c3), (3, .slice d n4 c4)]) K = K [.slice a n1 c1, .slice b n2 c2, .slice c n3 c3, .slice d n4 c4] := by kernel_rfl

theorem doneF_len (d : Dng) : (doneF d).length ≤ d.1.length + d.2.2.2.length + 24 := by
  unfold doneF
  split
  · simp [be_length]; omega
  · simp

theorem RecoTells_ok {M : Store} {a b c d : Int} {w1 : Value} {dg : Dng} (hD : Dn M w1 dg) (hn : dg.1.length ≤ 2 ^ 22) {v2 v3 : Value} {ns : List Int} (h2 : Is M v2 ns) {l : List UInt8} (h3 : B M v3 l) {n4 : Int} (b1 : -9223372036854775808 ≤ n4) (b2 : n4 ≤ 9223372036854775807) (y : UInt8) (l2 : ns.length ≤ 2 ^ 22) :
    R F.fettlelaw12_RecoTells #[lkv a b c d, w1, v2, v3, .int .i64 n4, bv y] M fun v M' => v = .bool true := by
  have hD' := hD
  obtain ⟨ad, nn, cc, rfl, ho⟩ := hD'
  refine R.cps fun Q hQ => ?_
  apply T_fettlelaw12_RecoTells
  unfold S_fettlelaw12_RecoTells
  rw [bx_lk, OP_some, LT_eq]
  have o6 := Ob.new M [.int .i64 a, .int .i64 b, .int .i64 c, .int .i64 d] Ty.api_Lock
  have u1 := Up.push M (some (.inl ([Value.int .i64 a, .int .i64 b, .int .i64 c, .int .i64 d], Ty.api_Lock, true)))
  generalize M.push (some (.inl ([Value.int .i64 a, .int .i64 b, .int .i64 c, .int .i64 d], Ty.api_Lock, true))) = M1 at *
  rw [bx_dn, OP_some, LT_eq]
  have o7 := Ob.new M1 (dnc dg.1 dg.2.1 dg.2.2.1 ad nn cc) Ty.api_Done
  have u2 := Up.push M1 (some (.inl (dnc dg.1 dg.2.1 dg.2.2.1 ad nn cc, Ty.api_Done, true)))
  generalize M1.push (some (.inl (dnc dg.1 dg.2.1 dg.2.2.1 ad nn cc, Ty.api_Done, true))) = M2 at *
  have o6 := o6.up u2
  have uM2 : Up M M2 := Ch.up u1 u2
  have hend : ∀ M1, R F.fettlelaw12_awake #[] M1 fun t31 M2 => NTs [t31] ∧ Q t31 M2 := by
    intro M1
    refine (awake12_ok M1).mono fun v M2 ⟨hu2, hv⟩ => ?_
    subst hv; exact ⟨rfl, hQ _ _ rfl⟩
  simp only [e_fad, Nat.zero_add]
  rw [h3.lenV, OP_some, e_gtr, BR_dec]
  split
  · exact hend _
  rw [o7.ld (o := 0) rfl, OP_some, e_lenS, e_gtr, BR_dec]
  split
  · exact hend _
  rw [o7.ld (o := 3) rfl, OP_some, ho.lenV, OP_some, e_gtr, BR_dec]
  split
  · exact hend _
  rename_i g1 g2 g3
  have hdl := doneF_len dg
  have eL : ∀ X : Store, Up M2 X → ld 4 true (.pointer (some ⟨M.n, 0, none⟩)) X = some (lkv a b c d) := fun X hX => (o6.up hX).ldA (s := 4) rfl
  have eD : ∀ X : Store, Up M2 X → ld 4 true (.pointer (some ⟨M1.n, 0, none⟩)) X = some (dnv dg.1 dg.2.1 dg.2.2.1 ad nn cc) := fun X hX => (o7.up hX).ldA (s := 4) rfl
  have hDn : ∀ X : Store, Up M2 X → Dn X (dnv dg.1 dg.2.1 dg.2.2.1 ad nn cc) dg := fun X hX => hD.up (Ch.up uM2 hX)
  rw [eL _ (Ch.refl _ _), OP_some]
  refine (Lock_ok a b c d).mono fun v6 M6 ⟨u6, h6⟩ => ?_
  refine ⟨u6.tdj _ _, ?_⟩
  rw [cvBS_ok h6.by, OP_some, eL _ u6, OP_some]
  refine (RLock_ok a b c d).mono fun v7 M7 ⟨u7, h7⟩ => ?_
  refine ⟨u7.tdj _ _, ?_⟩
  have q7 : Up M2 M7 := Ch.up u6 u7
  rw [cvBS_ok h7.by, OP_some, str_neq, BR_dec, if_neg (by simp), eD _ q7, OP_some]
  refine (Done_ok (hDn _ q7) (by omega) (by omega)).mono fun v8 M8 ⟨u8, h8⟩ => ?_
  refine ⟨u8.tdj _ _, ?_⟩
  have q8 : Up M2 M8 := Ch.up q7 u8
  rw [cvBS_ok h8.by, OP_some, eD _ q8, OP_some]
  refine (RDone_ok (hDn _ q8) (by omega) (by omega)).mono fun v9 M9 ⟨u9, h9⟩ => ?_
  refine ⟨u9.tdj _ _, ?_⟩
  have q9 : Up M2 M9 := Ch.up q8 u9
  rw [cvBS_ok h9.by, OP_some, str_neq, BR_dec, if_neg (by simp)]
  refine RL_build (M0 := M9) l2 (h2.up (Ch.up uM2 q9)) (fun M10 v13 tr u10 h13 htr => ?_) (min ns.length 8) 0 M9 (.slice none 0 0) [] rfl (Ch.refl _ _) (Nw.nil _ _ _ _) (by simp)
  apply T_fettlelaw12_RecoTells_3
  unfold S_fettlelaw12_RecoTells_3
  have q10 : Up M2 M10 := Ch.up q9 u10
  rw [eL _ q10, OP_some]
  refine (RLock_ok a b c d).mono fun v11 M11 ⟨u11, h11⟩ => ?_
  refine ⟨u11.tdj _ _, ?_⟩
  have q11 : Up M2 M11 := Ch.up q10 u11
  rw [eD _ q11, OP_some]
  refine (RDone_ok (hDn _ q11) (by omega) (by omega)).mono fun v12 M12 ⟨u12, h12⟩ => ?_
  refine ⟨u12.tdx _ _ _, ?_⟩
  have q12 : Up M2 M12 := Ch.up q11 u12
  have g1' : B M12 v3 l := Sl.up h3 (Ch.up uM2 q12)
  have g2' : B M12 v11 (lockF a b c d) := Sl.up h11.by u12
  have g3' : B M12 v12 (doneF dg) := h12.by
  have g4' : B M12 v13 tr := Sl.up h13.by (Ch.up u11 u12)
  obtain ⟨a0, c0, rfl⟩ := g1'.slice
  obtain ⟨a1, c1, rfl⟩ := g2'.slice
  obtain ⟨a2, c2, rfl⟩ := g3'.slice
  obtain ⟨a3, c3, rfl⟩ := g4'.slice
  rw [e_lit4s, LT_eq]
  have u13 := Up.push M12 (some (.inl ([Value.slice a0 l.length c0, .slice a1 (lockF a b c d).length c1, .slice a2 (doneF dg).length c2, .slice a3 tr.length c3], Ty.sl_uint8, true)))
  have hN : NLs B Ty.sl_uint8 M12 (M12.push (some (.inl ([Value.slice a0 l.length c0, .slice a1 (lockF a b c d).length c1, .slice a2 (doneF dg).length c2, .slice a3 tr.length c3], Ty.sl_uint8, true)))) (.slice (some ⟨M12.n, 0, none⟩) 4 4) [l, lockF a b c d, doneF dg, tr] := by
    refine ⟨_, Nw.lit (s := 1) (M0 := M12) (n := 4) (Nat.le_refl _) rfl, ?_, ?_, ?_, ?_, trivial⟩
    · exact Sl.up g1' u13
    · exact Sl.up g2' u13
    · exact Sl.up g3' u13
    · exact Sl.up g4' u13
  have hget := Store.get_push_eq M12 (some (.inl ([Value.slice a0 l.length c0, .slice a1 (lockF a b c d).length c1, .slice a2 (doneF dg).length c2, .slice a3 tr.length c3], Ty.sl_uint8, true)))
  have hn13 : (M12.push (some (.inl ([Value.slice a0 l.length c0, .slice a1 (lockF a b c d).length c1, .slice a2 (doneF dg).length c2, .slice a3 tr.length c3], Ty.sl_uint8, true)))).n = M12.n + 1 := rfl
  generalize M12.push (some (.inl ([Value.slice a0 l.length c0, .slice a1 (lockF a b c d).length c1, .slice a2 (doneF dg).length c2, .slice a3 tr.length c3], Ty.sl_uint8, true))) = M13 at *
  have hok : elemOk M13 (some ⟨M12.n, 0, none⟩) Ty.sl_uint8 = true := by simp [elemOk, hget]
  have ecut : slV 1 Ty.sl_uint8 (.slice (some ⟨M12.n, 0, none⟩) 4 4) (some (.int .i64 1)) none M13 = some (.slice (some ⟨M12.n, 1, none⟩) 3 3) := by
    simp only [slV, abound, hok]
    simp [addr_plus]
  obtain ⟨vc, ec, hc⟩ := hN.ls.cut (lo := some (.int .i64 1)) (hi := none) (a := 1) (r := 4) rfl (abound_some (k := .i64) (i := 1) (by omega) (by omega)) (by simp) (by omega)
  rw [ecut] at ec
  injection ec with ec
  subst ec
  have hc : BB M13 (.slice (some ⟨M12.n, 1, none⟩) 3 3) [lockF a b c d, doneF dg, tr] := hc
  rw [ecut, OP_some, e_lenV]
  have hlk := lockF_length a b c d
  refine RL_grow (Mb := M12) (m3 := M13.n) (ls := [lockF a b c d, doneF dg, tr]) (by omega) (fun x hx => by injection hx with hx; subst hx; show M12.n < M13.n; omega) ⟨b1, b2⟩ y (by simp) ?_ (fun M' => hQ _ _ rfl) 3 0 M13 _ [l, lockF a b c d, doneF dg, tr] rfl u13 (Nat.le_refl _) hc hN (fun j hj => by simp [kil] at hj) (by simp) ?_
  · intro x hx
    simp only [List.mem_cons, List.not_mem_nil, or_false] at hx
    rcases hx with rfl | rfl | rfl <;> omega
  · intro x hx
    simp only [List.mem_cons, List.not_mem_nil, or_false] at hx
    rcases hx with rfl | rfl | rfl | rfl <;> omega

end Go.G
