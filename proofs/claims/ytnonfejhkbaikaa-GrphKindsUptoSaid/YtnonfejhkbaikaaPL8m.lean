/- Layer 8: what is reached, told by a function; ranges over it; sets in maps. -/
import Derived.Test.YtnonfejhkbaikaaPE8f
import Derived.Test.YtnonfejhkbaikaaPE8r
import Derived.Test.YtnonfejhkbaikaaPV8b
import Derived.Test.YtnonfejhkbaikaaPN1
namespace Go.G
open Go.Ab Go.Proofs Go.RowKit
set_option linter.unusedVariables false
set_option linter.unusedSimpArgs false
set_option maxRecDepth 100000

theorem awake8_ok (M : Store) : R F.fettlelaw8_awake #[] M fun v M' => M' = M ∧ v = tv true := ⟨1, tv true, M, by kernel_rfl, rfl, rfl⟩
abbrev pp (b : Nat) : Value := .pointer (some ⟨b, 0, none⟩)
abbrev nv (n : Nat) : Value := iv (n : Int)
/-- A set, as a map finds it. -/
def setF (l : List Int) (k : Int) : Option Value := if k ∈ l then some (tv true) else none
theorem setF_get (l : List Int) (k : Int) : (setF l k).getD (.bool false) = tv (decide (k ∈ l)) := by
  unfold setF; by_cases h : k ∈ l <;> simp [h]
theorem setF_put (l : List Int) (k : Int) : (fun q => if q = k then some (tv true) else setF l q) = setF (l ++ [k]) := by
  funext q
  unfold setF
  by_cases h : q = k <;> simp [h]
/-- Sixteen rows of one's own, laid in a box. -/
def ARn (Mb M : Store) (b : Nat) (es : Nat → List Int) : Prop := ∃ vs, Ob M b vs Ty.a16_sl_int ∧ vs.length = 16 ∧ ∀ k, k < 16 → NV iv Ty.int Mb M (vs.getD k undef) (es k)
theorem ARn.ar {Mb M : Store} {b : Nat} {es : Nat → List Int} (h : ARn Mb M b es) : AR M b es := by
  obtain ⟨vs, h1, h2, h3⟩ := h; exact ⟨vs, h1, h2, fun k hk => (h3 k hk).lv⟩
theorem ARn.up {Mb M M' : Store} {b : Nat} {es : Nat → List Int} (h : ARn Mb M b es) (u : Up M M') : ARn Mb M' b es := by
  obtain ⟨vs, h1, h2, h3⟩ := h; exact ⟨vs, h1.up u, h2, fun k hk => Nw.up (h3 k hk) u⟩
/-- What lay there before is touched alone. -/
theorem ARn.old {Mb M M' : Store} {b : Nat} {es : Nat → List Int} (h : ARn Mb M b es) {S : List Nat} (c : Ch S M M') (hS : ∀ q ∈ S, q < Mb.n) (hb : b ∉ S) : ARn Mb M' b es := by
  obtain ⟨vs, h1, h2, h3⟩ := h
  refine ⟨vs, h1.fr c hb, h2, fun k hk => ?_⟩
  obtain ⟨g1, g | ⟨b', cells', cp', e, gb, g6, g7, g8, g9⟩⟩ := h3 k hk
  · exact ⟨g1, .inl g⟩
  · exact ⟨g1, .inr ⟨b', cells', cp', e, gb, c.at g6 (fun hm => by have := hS _ hm; omega), g7, g8, g9⟩⟩
theorem EdN.put {Mb M : Store} {w : Value} {es : Nat → List Int} (h : EdN Mb M w es) : ∃ M', st 16 (.pointer (some ⟨M.n, 0, none⟩)) w (M.push (some (.inl (nil16, Ty.a16_sl_int, true)))) = some M' ∧ Up M M' ∧ ARn Mb M' M.n es ∧ M'.n = M.n + 1 := by
  obtain ⟨vs, rfl, hl, hone, he⟩ := h
  have ho := Ob.new M nil16 Ty.a16_sl_int
  have hup := Up.push M (some (.inl (nil16, Ty.a16_sl_int, true)))
  refine ⟨_, ho.stA (s := 16) rfl hl hone, hup.ch (Ch.setO ho _) (by simp), ⟨vs, ho.setSt vs, hl, fun k hk => ?_⟩, by simp⟩
  exact Nw.keep (Nw.up (he k hk) hup) (by decide) ((Ch.setO ho _).keepT ho)
/-- Different numbers below n are at most n. -/
theorem nodup_len : ∀ (n : Nat) (l : List Int), l.Nodup → (∀ z ∈ l, 0 ≤ z ∧ z < n) → l.length ≤ n
  | 0, l, _, h => by
    cases l with
    | nil => simp
    | cons z l => have := h z (by simp); omega
  | n + 1, l, hn, h => by
    by_cases hm : (n : Int) ∈ l
    · have h1 := List.length_erase_of_mem hm
      have h2 := nodup_len n (l.erase (n : Int)) (hn.erase _) fun z hz => by
        obtain ⟨hz1, hz2⟩ := (hn.mem_erase_iff).1 hz
        have := h z hz2; omega
      omega
    · have := nodup_len n l hn fun z hz => by
        have := h z hz
        have : z ≠ n := fun e => hm (e ▸ hz)
        omega
      omega
theorem unlA_in {P : Int → Prop} : ∀ (xs acc : List Int), (∀ z ∈ acc, P z) → (∀ z ∈ xs, P z) → ∀ z ∈ unlA acc xs, P z := fun xs acc h1 h2 z hz => by
  rcases (unlA_mem acc xs z).1 hz with h | h
  · exact h1 z h
  · exact h2 z h
/-- The nearest first: there is an end, where all is below m. -/
theorem bfs_end {A : Int → List Int} {m : Nat} (hA : ∀ x : Int, 0 ≤ x → x < (m : Int) → ∀ z ∈ A x, 0 ≤ z ∧ z < (m : Int)) : ∀ (n i : Nat) (all : List Int), all.Nodup → (∀ z ∈ all, 0 ≤ z ∧ z < m) → m ≤ n + i → ∃ L, bfsN A n i all = some L ∧ L.Nodup ∧ ∀ z ∈ L, 0 ≤ z ∧ z < m
  | 0, i, all, hn, hb, hm => by
    have := nodup_len m all hn hb
    refine ⟨all, ?_, hn, hb⟩
    unfold bfsN; rw [dif_neg (by omega)]
  | n + 1, i, all, hn, hb, hm => by
    unfold bfsN
    by_cases hi : i < all.length
    · rw [dif_pos hi]
      have hx := hb _ (List.getElem_mem hi)
      exact bfs_end hA n (i + 1) _ (unlA_nodup _ _ hn) (unlA_in _ _ hb (hA _ hx.1 hx.2)) (by omega)
    · rw [dif_neg hi]; exact ⟨all, rfl, hn, hb⟩
theorem bfsN_more {A : Int → List Int} : ∀ {n n' i : Nat} {all L : List Int}, bfsN A n i all = some L → n ≤ n' → bfsN A n' i all = some L
  | 0, n', i, all, L, h, _ => by
    unfold bfsN at h ⊢
    split
    · rename_i hi; rw [dif_pos hi] at h; cases h
    · rename_i hi; rw [dif_neg hi] at h; exact h
  | n + 1, n', i, all, L, h, hn => by
    obtain ⟨n', rfl⟩ : ∃ k, n' = k + 1 := ⟨n' - 1, by omega⟩
    unfold bfsN at h ⊢
    split
    · rename_i hi; rw [dif_pos hi] at h; exact bfsN_more h (by omega)
    · rename_i hi; rw [dif_neg hi] at h; exact h
theorem bx_slI {a : Option Addr} {n c : Nat} : boxv (.slice a n c) = some [.slice a n c] := by kernel_rfl
/-- The function that reaches. -/
theorem Reach_int_ok {M : Store} {x0 g : Value} {fr : List Int} (hx : LV iv Ty.int M x0 fr) (hl : fr.length ≤ 2 ^ 20) (hg : ∃ f c, g = .func (.func f) #[] c) :
    R F.grph_Reach_int #[x0, g] M fun v M' => Up M M' ∧ ∃ b2 b3 w, v = .func (.func F.grph_Reach_int_c1) #[] #[pp b2, pp b3] ∧ M.n ≤ b2 ∧ M.n ≤ b3 ∧ Ob M' b2 [w] Ty.sl_int ∧ NV iv Ty.int M M' w fr ∧ Ob M' b3 [g] Ty.func_int_sl_int := by
  obtain ⟨f, cp, rfl⟩ := hg
  refine R.cps fun Q hQ => ?_
  apply T_grph_Reach_int
  unfold S_grph_Reach_int
  obtain ⟨a, c, rfl⟩ := hx.slice
  rw [bx_slI, OP_some]
  refine s_new fun M1 u1 o1 n1 => ?_
  have hbg : boxv (.func (.func f) #[] cp) = some [.func (.func f) #[] cp] := by kernel_rfl
  rw [hbg, OP_some]
  refine s_new fun M2 u2 o2 n2 => ?_
  rw [(o1.up u2).ld (v := .slice a fr.length c) rfl, OP_some]
  refine (Clone_int_ok ((hx.up u1).up u2) (by omega)).mono fun w M3 ⟨u3, hN⟩ => ?_
  obtain ⟨wa, wc, rfl⟩ := hN.sl.slice
  have o13 := (o1.up u2).up u3
  refine s_st1 (i := 0) (w := .slice wa fr.length wc) o13 (by simp) (cells_sl _ _ _) (oc_sl _ _ _) fun M4 c4 o4 _ => ?_
  have hmk : mkF (.func F.grph_Reach_int_c1) [] [pp M.n, pp M1.n] = some (.func (.func F.grph_Reach_int_c1) #[] #[pp M.n, pp M1.n]) := rfl
  rw [hmk, OP_some]
  have kk := c4.keepT o13
  have hlt := o1.lt
  refine ⟨rfl, hQ _ _ ⟨((u1.trans u2).trans u3).ch c4 (by simp), M.n, M1.n, _, rfl, Nat.le_refl _, u1.n, o4, ?_, ?_⟩⟩
  · exact Nw.base (Nw.keep hN (by decide) kk) (u1.trans u2).n
  · exact (o2.up u3).fr c4 (by simp; omega)

/-! ## rounds -/
end Go.G
