/- Texts cut at a byte: strings.Split, and what it calls. -/
import Derived.Test.YtjchjhkhopcalaaGreatDoorPGA
import Derived.Test.YtjchjhkhopcalaaGreatDoorPN1
import Derived.Test.YtjchjhkhopcalaaGreatDoorPCutF
namespace Go.G
open Go.Ab Go.Proofs Go.RowKit
set_option linter.unusedVariables false
set_option linter.unusedSimpArgs false
theorem qv {M : Store} {l : List UInt8} {c : UInt8} {Q : Value → Store → Prop} (hQ : Q (iv (Lib.indexByte l c)) M) : R F.l #[sv l, bv c] M Q := by
 apply dP
 unfold bO
 exact gV (g := l4) (by kernel_rfl) (tg l c M) ⟨rfl, hQ⟩
theorem qs {M : Store} {l : List UInt8} {c : UInt8} {Q : Value → Store → Prop} (hQ : Q (iv (l.count c : Nat)) M) : R F.J #[sv l, sv [c]] M Q := by
 apply kR
 unfold gf
 rw [aY, show (([c].length : Nat) : Int) = 1 from rfl, dG, ag, if_neg (by decide), aY, show (([c].length : Nat) : Int) = 1 from rfl, dG, ag, if_pos rfl, k8]
 exact gV (g := lQ) (by kernel_rfl) (s5 l c M) ⟨rfl, hQ⟩
theorem mi {M : Store} {l : List UInt8} {c : UInt8} {Q : Value → Store → Prop} (hQ : Q (iv (Lib.indexByte l c)) M) : R F.A #[sv l, sv [c]] M Q := by
 apply kS
 unfold gg
 apply cC
 unfold bo
 rw [aY, show (([c].length : Nat) : Int) = 1 from rfl, dG, ag, if_neg (by decide), fE, ag]
 split
 ·rename_i h
  subst h
  have : Lib.indexByte [c] c = 0 := by simp [Lib.indexByte]
  rw [this] at hQ
  exact ⟨rfl, rfl, hQ⟩
 ·rw [dG, ag, if_pos rfl, k8]
  exact qv ⟨rfl, rfl, hQ⟩
theorem qj {M0 : Store} {c : UInt8} {k : Nat} (hk : k ≤ 2 ^ 30) {x9 : Value} {L : List (List UInt8)} {Q : Value → Store → Prop} (hQ : ∀ v M, Up M0 M → LV sv Ty.a M v L → Q v M) :
    ∀ (d i : Nat) (r : List UInt8) (D : List (List UInt8)) (M : Store), d + i = k → r.length ≤ 2 ^ 30 → r.count c = d → D.length = i → D ++ aR c r = L → Up M0 M → NV sv Ty.a M0 M x9 (D ++ List.replicate (d + 1) []) →
     aT (sv r) (sv [c]) (iv 0) (iv (k : Int)) x9 (iv (i : Int)) M Q := by
 have putL : ∀ (D : List (List UInt8)) (n : Nat) (x : List UInt8), (D ++ List.replicate (n + 1) ([] : List UInt8)).set D.length x = (D ++ [x]) ++ List.replicate n [] := by
  intro D n x
  rw [List.set_append_right _ _ (Nat.le_refl _), Nat.sub_self, List.replicate_succ, List.set_cons_zero]; simp
 have put : ∀ (D : List (List UInt8)) (n i : Nat) (x : List UInt8) (M : Store), D.length = i → NV sv Ty.a M0 M x9 (D ++ List.replicate (n + 1) []) →
     ∃ p M' b, ixA 1 x9 (.int .i64 (i : Int)) = some p ∧ st 1 p (sv x) M = some M' ∧ NV sv Ty.a M0 M' x9 ((D ++ [x]) ++ List.replicate n []) ∧ M0.n ≤ b ∧ Ch [b] M M' := by
  intro D n i x M hD h
  obtain ⟨p, M', b, h1, _, h3, h4, _, h6, _, h8⟩ := Nw.put1 h (i := i) (by simp; omega) .i64 (nK x) (sH x)
  refine ⟨p, M', b, h1, h3, ?_, h6, h8⟩
  have e1 : (((D ++ List.replicate (n + 1) ([] : List UInt8)).map sv).set i (sv x)) = ((D ++ [x]) ++ List.replicate n []).map sv := by
   rw [← putL D n x, List.map_set, hD]
  rw [e1] at h4
  have e2 : (D ++ List.replicate (n + 1) ([] : List UInt8)).length = ((D ++ [x]) ++ List.replicate n ([] : List UInt8)).length := by simp
  rw [e2] at h4
  exact h4
 intro d
 induction d with
 | zero =>
  intro i r D M hi hr hc hD hL hu hn
  apply d9
  unfold cN
  rw [bm, ag, if_neg (by omega)]
  apply im
  unfold d7
  obtain ⟨p, M', b, e1, e2, e3, e4, e5⟩ := put D 0 i r M hD hn
  rw [e1, ae, e2, ae, aP _ (by omega)]
  have hr0 : aR c r = [r] := gz r fun d hd e => by
   subst e
   have := List.count_pos_iff.2 hd
   omega
  rw [hr0] at hL
  obtain ⟨v', g1, g2⟩ := LV.cut (lo := none) (hi := some (iv ((i + 1 : Nat) : Int))) e3.lv (a := 0) (r := i + 1) (fI (by simp; omega) .i64) lL (by simp; omega) (by omega)
  rw [g1, ae]
  have e6 : (((D ++ [r]) ++ List.replicate 0 ([] : List UInt8)).take (i + 1)).drop 0 = L := by
   rw [← hL]; simp; rw [List.take_of_length_le (by simp; omega)]
  rw [e6] at g2
  exact ⟨qX g2, hQ v' M' (hu.ch e5 (by simpa using e4)) g2⟩
 | succ d ih =>
  intro i r D M hi hr hc hD hL hu hn
  apply d9
  unfold cN
  rw [bm, ag, if_pos (by omega)]
  apply il
  unfold d6
  rcases oh c r with hno | ⟨s, r', rfl, hs⟩
  ·exfalso
   have : r.count c = 0 := List.count_eq_zero.2 fun h => hno c h rfl
   omega
  ·refine mi ?_
   rw [qU s r' c hs, fB, ag, if_neg (by omega)]
   apply io
   unfold d8
   rw [List.length_append, List.length_cons] at hr
   rw [show (iv 0) = iv ((0 : Nat) : Int) from rfl, gl _ _ (by omega), Nat.add_zero, lC (by simp)]
   have hc0 : s.count c = 0 := List.count_eq_zero.2 fun h => hs c h rfl
   rw [List.count_append, hc0, List.count_cons_self] at hc
   rw [fe r' s hs] at hL
   rw [show (s ++ c :: r').take s.length = s by rw [List.take_left]]
   obtain ⟨p, M', b, e1, e2, e3, e4, e5⟩ := put D (d + 1) i s M hD hn
   rw [e1, ae, e2, ae, aY, gl _ _ (by simp; omega), fN (by simp), aP _ (by omega)]
   have e6 : (s ++ c :: r').drop (s.length + [c].length) = r' := by
    rw [← List.drop_drop, List.drop_left]; rfl
   rw [e6]
   exact ih (i + 1) r' (D ++ [s]) M' (by omega) (by omega) (by omega) (by simp; omega) (by rw [← hL]; simp) (hu.ch e5 (by simpa using e4)) e3
theorem mr {M : Store} {l : List UInt8} {c : UInt8} (hl : l.length ≤ 2 ^ 28) : R F.K #[sv l, sv [c]] M fun v M' => Up M M' ∧ LV sv Ty.a M' v (aR c l) := by
 refine R.cps fun Q hQ => ?_
 apply kT
 unfold gh
 apply jc
 unfold eV
 rw [dG, ag, if_neg (by decide)]
 show OP (al .eql (sv [c]) (sv [])) _
 rw [fE, ag, if_neg (by simp), fB, ag, if_pos (by decide)]
 refine qs ?_
 have hc : l.count c ≤ l.length := List.count_le_length
 rw [aP _ (by omega)]
 apply ik
 unfold d5
 rw [aY, aP _ (by omega), iB, if_neg (by omega)]
 refine ue (En := sv) (x0 := []) (z := .string ⟨#[]⟩) (by kernel_rfl) rfl (by omega) (by decide) fun v M1 hu1 hN hb => ?_
 rw [show (Value.int .i64 1) = iv ((1 : Nat) : Int) from rfl, jO _ _ (by omega) (by omega), Nat.add_sub_cancel]
 refine qj (M0 := M) (c := c) (k := l.count c) (by omega) (L := aR c l) (fun v M hu hv => ⟨?_, ?_⟩) (l.count c) 0 l [] M1 rfl (by omega) rfl rfl rfl hu1 (by simpa using hN)
 ·exact qX hv
 ·exact hQ _ _ ⟨hu, hv⟩
end Go.G
