/- Texts cut at a byte: strings.Split, and what it calls. -/
import Derived.Test.YtnonfejhkbaikaaDoorPGA
import Derived.Test.YtnonfejhkbaikaaDoorPN1
import Derived.Test.YtnonfejhkbaikaaDoorPCutF
namespace Go.G
open Go.Ab Go.Proofs Go.RowKit
set_option linter.unusedVariables false
set_option linter.unusedSimpArgs false

theorem IxB_ok {M : Store} {l : List UInt8} {c : UInt8} {Q : Value → Store → Prop} (hQ : Q (iv (Lib.indexByte l c)) M) : R F.internal_stringslite_IndexByte #[sv l, bv c] M Q := by
  apply T_internal_stringslite_IndexByte
  unfold S_internal_stringslite_IndexByte
  exact R_told (g := ixbX) (by kernel_rfl) (ixbX_sv l c M) ⟨rfl, hQ⟩
theorem Count1_ok {M : Store} {l : List UInt8} {c : UInt8} {Q : Value → Store → Prop} (hQ : Q (iv (l.count c : Nat)) M) : R F.strings_Count #[sv l, sv [c]] M Q := by
  apply T_strings_Count
  unfold S_strings_Count
  rw [sv_len, show (([c].length : Nat) : Int) = 1 from rfl, e_eql, BR_dec, if_neg (by decide), sv_len, show (([c].length : Nat) : Int) = 1 from rfl, e_eql, BR_dec, if_pos rfl, bv_at0]
  exact R_told (g := cntX) (by kernel_rfl) (cntX_sv l c M) ⟨rfl, hQ⟩
theorem Index1_ok {M : Store} {l : List UInt8} {c : UInt8} {Q : Value → Store → Prop} (hQ : Q (iv (Lib.indexByte l c)) M) : R F.strings_Index #[sv l, sv [c]] M Q := by
  apply T_strings_Index
  unfold S_strings_Index
  apply T_internal_stringslite_Index
  unfold S_internal_stringslite_Index
  rw [sv_len, show (([c].length : Nat) : Int) = 1 from rfl, e_eql, BR_dec, if_neg (by decide), sv_eq, BR_dec]
  split
  · rename_i h
    subst h
    have : Lib.indexByte [c] c = 0 := by simp [Lib.indexByte]
    rw [this] at hQ
    exact ⟨rfl, rfl, hQ⟩
  · rw [e_eql, BR_dec, if_pos rfl, bv_at0]
    exact IxB_ok ⟨rfl, rfl, hQ⟩

theorem split_loop {M0 : Store} {c : UInt8} {k : Nat} (hk : k ≤ 2 ^ 30) {x9 : Value} {L : List (List UInt8)} {Q : Value → Store → Prop} (hQ : ∀ v M, Up M0 M → LV sv Ty.string M v L → Q v M) :
    ∀ (d i : Nat) (r : List UInt8) (D : List (List UInt8)) (M : Store), d + i = k → r.length ≤ 2 ^ 30 → r.count c = d → D.length = i → D ++ cutF c r = L → Up M0 M → NV sv Ty.string M0 M x9 (D ++ List.replicate (d + 1) []) →
      P_strings_genSplit_2 (sv r) (sv [c]) (iv 0) (iv (k : Int)) x9 (iv (i : Int)) M Q := by
  have putL : ∀ (D : List (List UInt8)) (n : Nat) (x : List UInt8), (D ++ List.replicate (n + 1) ([] : List UInt8)).set D.length x = (D ++ [x]) ++ List.replicate n [] := by
    intro D n x
    rw [List.set_append_right _ _ (Nat.le_refl _), Nat.sub_self, List.replicate_succ, List.set_cons_zero]; simp
  have put : ∀ (D : List (List UInt8)) (n i : Nat) (x : List UInt8) (M : Store), D.length = i → NV sv Ty.string M0 M x9 (D ++ List.replicate (n + 1) []) →
      ∃ p M' b, ixA 1 x9 (.int .i64 (i : Int)) = some p ∧ st 1 p (sv x) M = some M' ∧ NV sv Ty.string M0 M' x9 ((D ++ [x]) ++ List.replicate n []) ∧ M0.n ≤ b ∧ Ch [b] M M' := by
    intro D n i x M hD h
    obtain ⟨p, M', b, h1, _, h3, h4, _, h6, _, h8⟩ := Nw.put1 h (i := i) (by simp; omega) .i64 (cells_sv x) (oc_sv x)
    refine ⟨p, M', b, h1, h3, ?_, h6, h8⟩
    have e1 : (((D ++ List.replicate (n + 1) ([] : List UInt8)).map sv).set i (sv x)) = ((D ++ [x]) ++ List.replicate n []).map sv := by
      rw [← putL D n x, List.map_set, hD]
    rw [e1] at h4
    have e2 : (D ++ List.replicate (n + 1) ([] : List UInt8)).length = ((D ++ [x]) ++ List.replicate n ([] : List UInt8)).length := by simp
    rw [e2] at h4
    exact h4
  intro d
  induction d with
  | zero =>
    intro i r D M hi hr hc hD hL hu hn
    apply T_strings_genSplit_2
    unfold S_strings_genSplit_2
    rw [lss_n, BR_dec, if_neg (by omega)]
    apply T_strings_genSplit_4
    unfold S_strings_genSplit_4
    obtain ⟨p, M', b, e1, e2, e3, e4, e5⟩ := put D 0 i r M hD hn
    rw [e1, OP_some, e2, OP_some, add1_n _ (by omega)]
    have hr0 : cutF c r = [r] := cutF_last r fun d hd e => by
      subst e
      have := List.count_pos_iff.2 hd
      omega
    rw [hr0] at hL
    obtain ⟨v', g1, g2⟩ := LV.cut (lo := none) (hi := some (iv ((i + 1 : Nat) : Int))) e3.lv (a := 0) (r := i + 1) (ab_some (by simp; omega) .i64) ab_none (by simp; omega) (by omega)
    rw [g1, OP_some]
    have e6 : (((D ++ [r]) ++ List.replicate 0 ([] : List UInt8)).take (i + 1)).drop 0 = L := by
      rw [← hL]; simp; rw [List.take_of_length_le (by simp; omega)]
    rw [e6] at g2
    exact ⟨nts_of g2, hQ v' M' (hu.ch e5 (by simpa using e4)) g2⟩
  | succ d ih =>
    intro i r D M hi hr hc hD hL hu hn
    apply T_strings_genSplit_2
    unfold S_strings_genSplit_2
    rw [lss_n, BR_dec, if_pos (by omega)]
    apply T_strings_genSplit_3
    unfold S_strings_genSplit_3
    rcases piece_or c r with hno | ⟨s, r', rfl, hs⟩
    · exfalso
      have : r.count c = 0 := List.count_eq_zero.2 fun h => hno c h rfl
      omega
    · refine Index1_ok ?_
      rw [ixb_at s r' c hs, e_lss, BR_dec, if_neg (by omega)]
      apply T_strings_genSplit_5
      unfold S_strings_genSplit_5
      rw [List.length_append, List.length_cons] at hr
      rw [show (iv 0) = iv ((0 : Nat) : Int) from rfl, add_n _ _ (by omega), Nat.add_zero, sv_to (by simp)]
      have hc0 : s.count c = 0 := List.count_eq_zero.2 fun h => hs c h rfl
      rw [List.count_append, hc0, List.count_cons_self] at hc
      rw [cutF_stop r' s hs] at hL
      rw [show (s ++ c :: r').take s.length = s by rw [List.take_left]]
      obtain ⟨p, M', b, e1, e2, e3, e4, e5⟩ := put D (d + 1) i s M hD hn
      rw [e1, OP_some, e2, OP_some, sv_len, add_n _ _ (by simp; omega), sv_from (by simp), add1_n _ (by omega)]
      have e6 : (s ++ c :: r').drop (s.length + [c].length) = r' := by
        rw [← List.drop_drop, List.drop_left]; rfl
      rw [e6]
      exact ih (i + 1) r' (D ++ [s]) M' (by omega) (by omega) (by omega) (by simp; omega) (by rw [← hL]; simp) (hu.ch e5 (by simpa using e4)) e3

/-- Cut at each such byte. -/
theorem Split1_ok {M : Store} {l : List UInt8} {c : UInt8} (hl : l.length ≤ 2 ^ 28) : R F.strings_Split #[sv l, sv [c]] M fun v M' => Up M M' ∧ LV sv Ty.string M' v (cutF c l) := by
  refine R.cps fun Q hQ => ?_
  apply T_strings_Split
  unfold S_strings_Split
  apply T_strings_genSplit
  unfold S_strings_genSplit
  rw [e_eql, BR_dec, if_neg (by decide)]
  show OP (binS .eql (sv [c]) (sv [])) _
  rw [sv_eq, BR_dec, if_neg (by simp), e_lss, BR_dec, if_pos (by decide)]
  refine Count1_ok ?_
  have hc : l.count c ≤ l.length := List.count_le_length
  rw [add1_n _ (by omega)]
  apply T_strings_genSplit_1
  unfold S_strings_genSplit_1
  rw [sv_len, add1_n _ (by omega), e_min, if_neg (by omega)]
  refine mkS_ok (En := sv) (x0 := []) (z := .string ⟨#[]⟩) (by kernel_rfl) rfl (by omega) (by decide) fun v M1 hu1 hN hb => ?_
  rw [show (Value.int .i64 1) = iv ((1 : Nat) : Int) from rfl, sub_n _ _ (by omega) (by omega), Nat.add_sub_cancel]
  refine split_loop (M0 := M) (c := c) (k := l.count c) (by omega) (L := cutF c l) (fun v M hu hv => ⟨?_, ?_⟩) (l.count c) 0 l [] M1 rfl (by omega) rfl rfl rfl hu1 (by simpa using hN)
  · exact nts_of hv
  · exact hQ _ _ ⟨hu, hv⟩
end Go.G
