/- Steps: boxes made, read and written; what is built of a few values. -/
import Derived.Test.YtjchjhkhopcalaaGreatDoorPKE
set_option linter.unusedVariables false
set_option linter.unusedSimpArgs false
namespace Go.Ab
open Go.RowKit
theorem Ch.ch {S : List Nat} {M M1 M2 : Store} (h : Ch [] M M1) (k : Ch S M1 M2) (hs : ∀ b ∈ S, M.n ≤ b) : Ch [] M M2 := Up.ch h k hs
theorem jN {cells : List Value} {T : TypeId} {M : Store} {k : Value → Store → Prop} (h : ∀ M1, Up M M1 → Ob M1 M.n cells T → M1.n = M.n + 1 → k (.pointer (some ⟨M.n, 0, none⟩)) M1) :
    LT (.pointer (some ⟨M.n, 0, none⟩)) (M.push (some (.inl (cells, T, true)))) k := h _ (Up.push _ _) (Ob.new _ _ _) rfl
theorem uV {M : Store} {b : Nat} {cells : List Value} {T : TypeId} {s : Nat} {vs : List Value} (o : Ob M b cells T) (h1 : cells.length = s) (h2 : vs.length = s) (h3 : vs.all (·.oneCell') = true) {K : Store → Prop}
    (h : ∀ M1, Ch [b] M M1 → Ob M1 b vs T → M1.n = M.n → K M1) : OP (st s (.pointer (some ⟨b, 0, none⟩)) (.agg vs.toArray) M) K := by
 rw [o.stA h1 h2 h3, ae]
 refine h _ (Ch.set o _) (o.setSt _) ?_
 simp only [Store.set]; split <;> rfl
theorem gF {M : Store} {b : Nat} {cells : List Value} {T : TypeId} {i : Nat} {w : Value} (o : Ob M b cells T) (hi : i < cells.length) (h1 : w.cells = #[w]) (h2 : w.oneCell' = true) {K : Store → Prop}
    (h : ∀ M1, Ch [b] M M1 → Ob M1 b (cells.set i w) T → M1.n = M.n → K M1) : OP (st 1 (.pointer (some ⟨b, i, none⟩)) w M) K := by
 rw [o.st hi h1 h2, ae]
 refine h _ (Ch.set o _) (o.setSt _) ?_
 simp only [Store.set]; split <;> rfl
theorem Ob.nw {M0 M : Store} {b : Nat} {cs : List Value} {e : TypeId} {s n : Nat} (o : Ob M b cs e) (hb : M0.n ≤ b) (hl : cs.length = n * s) : Nw s e M0 M (.slice (some ⟨b, 0, none⟩) n n) n cs :=
 ⟨hl, .inr ⟨b, cs, n, rfl, hb, o, by omega, by rw [← hl]; simp, .inl rfl⟩⟩
theorem sJ {cs : List Value} {e : TypeId} {s n : Nat} {M : Store} {k : Value → Store → Prop} (hl : cs.length = n * s) (h : ∀ M1, Up M M1 → Nw s e M M1 (.slice (some ⟨M.n, 0, none⟩) n n) n cs → Ob M1 M.n cs e → M1.n = M.n + 1 → k (.slice (some ⟨M.n, 0, none⟩) n n) M1) :
    LT (.slice (some ⟨M.n, 0, none⟩) n n) (M.push (some (.inl (cs, e, true)))) k := h _ (Up.push _ _) ((Ob.new _ _ _).nw (Nat.le_refl _) hl) (Ob.new _ _ _) rfl
theorem dR (f b : Nat) (K : Value → Prop) : OP (fad f (.pointer (some ⟨b, 0, none⟩))) K = K (.pointer (some ⟨b, f, none⟩)) := by
 rw [sr, Nat.zero_add]
theorem Ob.l1 {M b v0 T} (h : Ob M b [v0] T) : ∀ K : Value → Prop, OP (Go.Ab.ld 1 false (.pointer (some ⟨b, 0, none⟩)) M) K = K v0 := fun K => by rw [h.ld (v := v0) rfl, ae]
theorem Ob.l2 {M b v0 v1 T} (h : Ob M b [v0, v1] T) : (∀ K : Value → Prop, OP (Go.Ab.ld 1 false (.pointer (some ⟨b, 0, none⟩)) M) K = K v0) ∧ (∀ K : Value → Prop, OP (Go.Ab.ld 1 false (.pointer (some ⟨b, 1, none⟩)) M) K = K v1) ∧
    (∀ K : Value → Prop, OP (Go.Ab.ld 2 true (.pointer (some ⟨b, 0, none⟩)) M) K = K (.agg #[v0, v1])) :=
 ⟨fun K => by rw [h.ld (v := v0) rfl, ae], fun K => by rw [h.ld (v := v1) rfl, ae], fun K => by rw [h.ldA (s := 2) rfl, ae]⟩
theorem Ob.l3 {M b v0 v1 v2 T} (h : Ob M b [v0, v1, v2] T) : (∀ K : Value → Prop, OP (Go.Ab.ld 1 false (.pointer (some ⟨b, 0, none⟩)) M) K = K v0) ∧ (∀ K : Value → Prop, OP (Go.Ab.ld 1 false (.pointer (some ⟨b, 1, none⟩)) M) K = K v1) ∧
    (∀ K : Value → Prop, OP (Go.Ab.ld 1 false (.pointer (some ⟨b, 2, none⟩)) M) K = K v2) ∧ (∀ K : Value → Prop, OP (Go.Ab.ld 3 true (.pointer (some ⟨b, 0, none⟩)) M) K = K (.agg #[v0, v1, v2])) :=
 ⟨fun K => by rw [h.ld (v := v0) rfl, ae], fun K => by rw [h.ld (v := v1) rfl, ae], fun K => by rw [h.ld (v := v2) rfl, ae], fun K => by rw [h.ldA (s := 3) rfl, ae]⟩
theorem Ch.tdx {M M' : Store} {b : Nat} {cells : List Value} {T : TypeId} (h : Ch [b] M M') (o : Ob M b cells T) {bs Ns : List Nat} {i : Nat} (hb : b < Ns.getD 0 0) : TDx bs Ns i M M' :=
 ⟨h.n, fun c hc => by
  rcases h.tdiff c hc with hc | hc
  ·exact .inl hc
  ·have : c = b := by simpa using hc
   subst this
   refine .inr ⟨by rw [show M.get c = _ from o]; rfl, ?_⟩
   unfold dw
   rw [Bool.or_eq_true]
   exact .inl (by simpa using hb)⟩
theorem tp3 (a b c : Value) : (∀ K : Value → Prop, OP (tup (.tuple #[a, b, c]) 0) K = K a) ∧ (∀ K : Value → Prop, OP (tup (.tuple #[a, b, c]) 1) K = K b) ∧ (∀ K : Value → Prop, OP (tup (.tuple #[a, b, c]) 2) K = K c) :=
 ⟨fun _ => rfl, fun _ => rfl, fun _ => rfl⟩
theorem tp2 (a b : Value) : (∀ K : Value → Prop, OP (tup (.tuple #[a, b]) 0) K = K a) ∧ (∀ K : Value → Prop, OP (tup (.tuple #[a, b]) 1) K = K b) := ⟨fun _ => rfl, fun _ => rfl⟩
end Go.Ab
