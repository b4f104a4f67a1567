/- Layer 8: what is reached, told by a function (L8m without its edges). -/
import Derived.Test.YtnonfejhkbaikaaPUR
import Derived.Test.YtnonfejhkbaikaaPN1
namespace Go.G
open Go.Ab Go.Proofs Go.RowKit
set_option linter.unusedVariables false
set_option linter.unusedSimpArgs false
set_option maxRecDepth 100000
abbrev pp (b : Nat) : Value := .pointer (some ⟨b, 0, none⟩)
abbrev nv (n : Nat) : Value := iv (n : Int)
theorem nq : ∀ (n : Nat) (l : List Int), l.Nodup → (∀ z ∈ l, 0 ≤ z ∧ z < n) → l.length ≤ n
 | 0, l, _, h => by
  cases l with
  | nil => simp
  | cons z l => have := h z (by simp); omega
 | n + 1, l, hn, h => by
  by_cases hm : (n : Int) ∈ l
  ·have h1 := List.length_erase_of_mem hm
   have h2 := nq n (l.erase (n : Int)) (hn.erase _) fun z hz => by
    obtain ⟨hz1, hz2⟩ := (hn.mem_erase_iff).1 hz
    have := h z hz2; omega
   omega
  ·have := nq n l hn fun z hz => by
     have := h z hz
     have : z ≠ n := fun e => hm (e ▸ hz)
     omega
   omega
theorem Ib {P : Int → Prop} : ∀ (xs acc : List Int), (∀ z ∈ acc, P z) → (∀ z ∈ xs, P z) → ∀ z ∈ co acc xs, P z := fun xs acc h1 h2 z hz => by
 rcases (uU acc xs z).1 hz with h | h
 ·exact h1 z h
 ·exact h2 z h
theorem Cg {A : Int → List Int} {m : Nat} (hA : ∀ x : Int, 0 ≤ x → x < (m : Int) → ∀ z ∈ A x, 0 ≤ z ∧ z < (m : Int)) : ∀ (n i : Nat) (all : List Int), all.Nodup → (∀ z ∈ all, 0 ≤ z ∧ z < m) → m ≤ n + i → ∃ L, ja A n i all = some L ∧ L.Nodup ∧ ∀ z ∈ L, 0 ≤ z ∧ z < m
 | 0, i, all, hn, hb, hm => by
  have := nq m all hn hb
  refine ⟨all, ?_, hn, hb⟩
  unfold ja; rw [dif_neg (by omega)]
 | n + 1, i, all, hn, hb, hm => by
  unfold ja
  by_cases hi : i < all.length
  ·rw [dif_pos hi]
   have hx := hb _ (List.getElem_mem hi)
   exact Cg hA n (i + 1) _ (pW _ _ hn) (Ib _ _ hb (hA _ hx.1 hx.2)) (by omega)
  ·rw [dif_neg hi]; exact ⟨all, rfl, hn, hb⟩
theorem IA {a : Option Addr} {n c : Nat} : aX (.slice a n c) = some [.slice a n c] := by kernel_rfl
theorem zk {M : Store} {x0 g : Value} {fr : List Int} (hx : LV iv Ty.b M x0 fr) (hl : fr.length ≤ 2 ^ 20) (hg : ∃ f c, g = .func (.func f) #[] c) :
    R F.p #[x0, g] M fun v M' => Up M M' ∧ ∃ b2 b3 w, v = .func (.func F.b) #[] #[pp b2, pp b3] ∧ M.n ≤ b2 ∧ M.n ≤ b3 ∧ Ob M' b2 [w] Ty.i ∧ NV iv Ty.b M M' w fr ∧ Ob M' b3 [g] Ty.l := by
 obtain ⟨f, cp, rfl⟩ := hg
 refine R.cps fun Q hQ => ?_
 apply uy
 unfold lG
 obtain ⟨a, c, rfl⟩ := hx.slice
 rw [IA, ab]
 refine aq fun M1 u1 o1 n1 => ?_
 have hbg : aX (.func (.func f) #[] cp) = some [.func (.func f) #[] cp] := by kernel_rfl
 rw [hbg, ab]
 refine aq fun M2 u2 o2 n2 => ?_
 rw [(o1.up u2).ld (v := .slice a fr.length c) rfl, ab]
 refine (kX ((hx.up u1).up u2) (by omega)).mono fun w M3 ⟨u3, hN⟩ => ?_
 obtain ⟨wa, wc, rfl⟩ := hN.sl.slice
 have o13 := (o1.up u2).up u3
 refine cY (i := 0) (w := .slice wa fr.length wc) o13 (by simp) (bQ _ _ _) (gG _ _ _) fun M4 c4 o4 _ => ?_
 have hmk : mkF (.func F.b) [] [pp M.n, pp M1.n] = some (.func (.func F.b) #[] #[pp M.n, pp M1.n]) := rfl
 rw [hmk, ab]
 have kk := c4.keepT o13
 have hlt := o1.lt
 refine ⟨rfl, hQ _ _ ⟨((u1.trans u2).trans u3).ch c4 (by simp), M.n, M1.n, _, rfl, Nat.le_refl _, u1.n, o4, ?_, ?_⟩⟩
 ·exact Nw.base (Nw.keep hN (by decide) kk) (u1.trans u2).n
 ·exact (o2.up u3).fr c4 (by simp; omega)
end Go.G
