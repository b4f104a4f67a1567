/- Layer 4: whose a file is, by the program and by the document. -/
import Derived.Test.YtjchjhkhopcalaaGreatDoorPW4
namespace Go.G
open Go.Ab Go.Proofs Go.RowKit
set_option linter.unusedVariables false
set_option linter.unusedSimpArgs false
set_option maxRecDepth 100000
theorem sN {M : Store} (hT : Tb M) {x : List UInt8} (hx : x.length ≤ 2 ^ 40) {Q : Value → Store → Prop} (hQ : ∀ e, Q (.tuple #[iv (aM x), e]) M) : R F.o #[sv x] M Q := by
 have hb : Nat.ble (⟨x.toArray⟩ : ByteArray).size 281474976710656 = true := Nat.ble_eq_true_of_le (show x.length ≤ _ by omega)
 have key : ∃ e, k7 #[sv x] M = some (.tuple #[iv (aM x), e], M) := by
  show ∃ e, (bif Nat.ble (⟨x.toArray⟩ : ByteArray).size 281474976710656 then
   match Lib.atoiAll x with
   | .ok v => some (Value.tuple #[.int .i64 v, .nilIface], M)
   | .syntax => bif eg (M.get 0) then some (.tuple #[.int .i64 0, .iface 194 (.pointer (some ⟨0, 0, some 0⟩))], M) else none
   | .range => bif eg (M.get 1) then some (.tuple #[.int .i64 (Lib.atoiSat x), .iface 194 (.pointer (some ⟨0, 0, some 0⟩))], M) else none
  else none) = _
  rw [hb, cond_true, hT.e0, hT.e1]
  unfold aM
  cases Lib.atoiAll x with
  | ok v => exact ⟨_, rfl⟩
  | «syntax» => exact ⟨_, rfl⟩
  | range => exact ⟨_, rfl⟩
 obtain ⟨e, he⟩ := key
 exact gV (g := k7) (by kernel_rfl) he (hQ e)
def ofR : Option (Int × Int) → Value
 | none => .tuple #[iv 0, iv 0, tv false]
 | some (a, b) => .tuple #[iv a, iv b, tv true]
theorem qt {M : Store} {s : List UInt8} {Q : Value → Store → Prop} (hQ : Q (if s.take 4 = bt then .tuple #[sv (s.drop 4), tv true] else .tuple #[sv s, tv false]) M) : R F.z #[sv s, sv bt] M Q := by
 apply iV
 unfold eu
 apply dO
 unfold bN
 apply bP
 unfold bb
 have h4 : ((bt.length : Nat) : Int) = ((4 : Nat) : Int) := rfl
 rw [aY, aY, h4, m9, ag]
 split
 ·rename_i h
  rw [aY, h4, lC h, fE]
  refine ⟨rfl, ?_⟩
  show OP (aun .not _) _
  rw [bE, bl]
  by_cases he : s.take 4 = bt
  ·rw [if_pos he] at hQ
   rw [decide_eq_true he, if_neg (by decide), aY, h4, fN h]
   refine ⟨rfl, ?_⟩
   simp only [tp2]
   exact ⟨rfl, hQ⟩
  ·rw [if_neg he] at hQ
   rw [decide_eq_false he, if_pos (by decide)]
   refine ⟨rfl, ?_⟩
   simp only [tp2]
   exact ⟨rfl, hQ⟩
 ·rename_i h
  have he : ¬ s.take 4 = bt := fun e => by
   have := congrArg List.length e
   rw [List.length_take] at this
   have h4' : bt.length = 4 := rfl
   omega
  rw [if_neg he] at hQ
  refine ⟨rfl, ?_⟩
  show OP (aun .not (.bool false)) _
  rw [bE]
  show BR (.bool true) _ _
  rw [dl]
  refine ⟨rfl, ?_⟩
  simp only [tp2]
  exact ⟨rfl, hQ⟩
theorem uz {M : Store} (hT : Tb M) {s : List UInt8} (hs : s.length ≤ 2 ^ 20) : R F.b1 #[sv s] M fun v M' => Up M M' ∧ v = ofR (ofF s) := by
 refine R.cps fun Q hQ => ?_
 apply qx
 unfold mj
 refine qt ?_
 unfold ofF at hQ
 by_cases he : s.take 4 = bt
 ·rw [if_pos he] at hQ ⊢
  simp only [tp2]
  refine (mr (c := 46) (by rw [List.length_drop]; omega)).mono fun t M1 ⟨u1, hL⟩ => ?_
  rw [bE]
  show BR (.bool false) _ _
  rw [ib, hL.len, ae, sE 3 3 rfl, ag]
  have hpl : ∀ p ∈ aR 46 (s.drop 4), p.length ≤ 2 ^ 40 := fun p hp => by have := lR 46 _ p hp; rw [List.length_drop] at this; omega
  generalize aR 46 (s.drop 4) = ps at *
  split
  ·rename_i h3
   refine ⟨rfl, hQ _ _ ⟨u1, ?_⟩⟩
   match ps, h3 with
   | [], _ => rfl
   | [_], _ => rfl
   | [_, _], _ => rfl
   | [_, _, _], h3 => exact absurd rfl h3
   | _ :: _ :: _ :: _ :: _, _ => rfl
  ·rename_i h3
   have h3 : ps.length = 3 := by simpa using h3
   match ps, h3 with
   | [x, y, z], _ =>
    refine jN fun M2 u2 o2 n2 => ?_
    have hL2 := hL.up u2
    have hT2 := (hT.up u1).up u2
    have hx := hpl x (by simp)
    have hy := hpl y (by simp)
    have hz := hpl z (by simp)
    rw [ae]
    have hTc : ∀ M3, Ch [M1.n] M2 M3 → Tb M3 := fun M3 c3 => (hT.up u1).up (Up.ch u2 c3 (by simp))
    have hLc : ∀ M3, Ch [M1.n] M2 M3 → LV sv Ty.a M3 t [x, y, z] := fun M3 c3 => hL.up (Up.ch u2 c3 (by simp))
    have round : ∀ (i : Nat) (hi : i < 3) (w : List UInt8) (hw : ([x, y, z] : List (List UInt8))[i]'hi = w) (hwl : w.length ≤ 2 ^ 40) (cs : List Value) (M3 : Store), cs.length = 3 → Ch [M1.n] M2 M3 → Ob M3 M1.n cs Ty.l →
        (∀ M4, Ch [M1.n] M2 M4 → Ob M4 M1.n (cs.set i (iv (aM w))) Ty.l → cg (sv s) (.pointer (some ⟨M1.n, 0, none⟩)) t (iv ((3 : Nat) : Int)) (iv ((i + 1 : Nat) : Int)) M4 Q) →
        cg (sv s) (.pointer (some ⟨M1.n, 0, none⟩)) t (iv ((3 : Nat) : Int)) (iv (i : Int)) M3 Q := by
     intro i hi w hw hwl cs M3 hcs hc3 o3 hgo
     apply jY
     unfold gM
     rw [bm, ag, if_pos hi]
     apply ow
     unfold jT
     obtain ⟨p, e1, e2⟩ := (hLc M3 hc3).at (i := i) hi .i64
     rw [e1, ae, e2, ae, hw]
     refine sN (hTc M3 hc3) hwl fun e => ?_
     rw [uN, ae, uO, ae]
     have ep : ixP 1 3 (.pointer (some ⟨M1.n, 0, none⟩)) (iv (i : Int)) = some (.pointer (some ⟨M1.n, i, none⟩)) := qT hi .i64
     rw [ep, ae]
     refine gF o3 (by omega) (rC _) (uL _) fun M4 c4 o4 n4 => ?_
     rw [aP _ (by omega)]
     exact hgo M4 (hc3.trans c4) o4
    refine round 0 (by decide) x rfl hx _ M2 rfl (Ch.refl _ _) o2 fun M3 c3 o3 => ?_
    refine round 1 (by decide) y rfl hy _ M3 rfl c3 o3 fun M4 c4 o4 => ?_
    refine round 2 (by decide) z rfl hz _ M4 rfl c4 o4 fun M5 c5 o5 => ?_
    have o5 : Ob M5 M1.n [iv (aM x), iv (aM y), iv (aM z)] Ty.l := o5
    apply jY
    unfold gM
    rw [bm, ag, if_neg (by omega)]
    apply oz
    unfold jU
    have ix : ∀ (i : Nat), i < 3 → ixP 1 3 (.pointer (some ⟨M1.n, 0, none⟩)) (iv (i : Int)) = some (.pointer (some ⟨M1.n, i, none⟩)) := fun i hi => qT hi .i64
    have i0 : ∀ K : Value → Prop, OP (ixP 1 3 (.pointer (some ⟨M1.n, 0, none⟩)) (.int .i64 0)) K = K (.pointer (some ⟨M1.n, 0, none⟩)) := fun K => by rw [show (Value.int .i64 0) = iv ((0 : Nat) : Int) from rfl, ix 0 (by decide), ae]
    have i1 : ∀ K : Value → Prop, OP (ixP 1 3 (.pointer (some ⟨M1.n, 0, none⟩)) (.int .i64 1)) K = K (.pointer (some ⟨M1.n, 1, none⟩)) := fun K => by rw [show (Value.int .i64 1) = iv ((1 : Nat) : Int) from rfl, ix 1 (by decide), ae]
    have i2 : ∀ K : Value → Prop, OP (ixP 1 3 (.pointer (some ⟨M1.n, 0, none⟩)) (.int .i64 2)) K = K (.pointer (some ⟨M1.n, 2, none⟩)) := fun K => by rw [show (Value.int .i64 2) = iv ((2 : Nat) : Int) from rfl, ix 2 (by decide), ae]
    simp only [i0, i1, i2, o5.l3]
    refine sU (hTc M5 c5) _ _ _ ?_
    rw [jP, ag]
    have hu5 : Up M M5 := u1.trans (Up.ch u2 c5 (by simp))
    split
    ·rename_i hne
     refine ⟨rfl, hQ _ _ ⟨hu5, ?_⟩⟩
     simp only
     rw [if_neg hne]; rfl
    ·rename_i hne
     have hne : cZ (aM x) (aM y) (aM z) = s := by simpa using hne
     simp only [i0, i1, i2, o5.l3]
     refine ⟨rfl, hQ _ _ ⟨hu5, ?_⟩⟩
     simp only
     rw [if_pos hne]; rfl
 ·rw [if_neg he] at hQ ⊢
  simp only [tp2]
  refine (mr (c := 46) (by omega)).mono fun t M1 ⟨u1, hL⟩ => ?_
  rw [bE]
  show BR (.bool true) _ _
  rw [dl]
  exact ⟨rfl, hQ _ _ ⟨u1, rfl⟩⟩
end Go.G
