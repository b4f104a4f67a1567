/- Steps: boxes made, read and written; what is built of a few values. -/
import Derived.Test.YtnonfejhkbaikaaDoorPAbVec2
set_option linter.unusedVariables false
set_option linter.unusedSimpArgs false
namespace Go.Ab
open Go.RowKit

theorem Ch.ch {S : List Nat} {M M1 M2 : Store} (h : Ch [] M M1) (k : Ch S M1 M2) (hs : ∀ b ∈ S, M.n ≤ b) : Ch [] M M2 := Up.ch h k hs
theorem s_new {cells : List Value} {T : TypeId} {M : Store} {k : Value → Store → Prop} (h : ∀ M1, Up M M1 → Ob M1 M.n cells T → M1.n = M.n + 1 → k (.pointer (some ⟨M.n, 0, none⟩)) M1) :
    LT (.pointer (some ⟨M.n, 0, none⟩)) (M.push (some (.inl (cells, T, true)))) k := h _ (Up.push _ _) (Ob.new _ _ _) rfl
theorem s_st {M : Store} {b : Nat} {cells : List Value} {T : TypeId} {s : Nat} {vs : List Value} (o : Ob M b cells T) (h1 : cells.length = s) (h2 : vs.length = s) (h3 : vs.all (·.oneCell') = true) {K : Store → Prop}
    (h : ∀ M1, Ch [b] M M1 → Ob M1 b vs T → M1.n = M.n → K M1) : OP (st s (.pointer (some ⟨b, 0, none⟩)) (.agg vs.toArray) M) K := by
  rw [o.stA h1 h2 h3, OP_some]
  refine h _ (Ch.set o _) (o.setSt _) ?_
  simp only [Store.set]; split <;> rfl
theorem s_st1 {M : Store} {b : Nat} {cells : List Value} {T : TypeId} {i : Nat} {w : Value} (o : Ob M b cells T) (hi : i < cells.length) (h1 : w.cells = #[w]) (h2 : w.oneCell' = true) {K : Store → Prop}
    (h : ∀ M1, Ch [b] M M1 → Ob M1 b (cells.set i w) T → M1.n = M.n → K M1) : OP (st 1 (.pointer (some ⟨b, i, none⟩)) w M) K := by
  rw [o.st hi h1 h2, OP_some]
  refine h _ (Ch.set o _) (o.setSt _) ?_
  simp only [Store.set]; split <;> rfl
theorem Ob.nw {M0 M : Store} {b : Nat} {cs : List Value} {e : TypeId} {s n : Nat} (o : Ob M b cs e) (hb : M0.n ≤ b) (hl : cs.length = n * s) : Nw s e M0 M (.slice (some ⟨b, 0, none⟩) n n) n cs :=
  ⟨hl, .inr ⟨b, cs, n, rfl, hb, o, by omega, by rw [← hl]; simp, .inl rfl⟩⟩
theorem s_lit {cs : List Value} {e : TypeId} {s n : Nat} {M : Store} {k : Value → Store → Prop} (hl : cs.length = n * s) (h : ∀ M1, Up M M1 → Nw s e M M1 (.slice (some ⟨M.n, 0, none⟩) n n) n cs → Ob M1 M.n cs e → M1.n = M.n + 1 → k (.slice (some ⟨M.n, 0, none⟩) n n) M1) :
    LT (.slice (some ⟨M.n, 0, none⟩) n n) (M.push (some (.inl (cs, e, true)))) k := h _ (Up.push _ _) ((Ob.new _ _ _).nw (Nat.le_refl _) hl) (Ob.new _ _ _) rfl
theorem fad0 (f b : Nat) (K : Value → Prop) : OP (fad f (.pointer (some ⟨b, 0, none⟩))) K = K (.pointer (some ⟨b, f, none⟩)) := by
  rw [e_fad, Nat.zero_add]
/-- What lies in a box of some cells. -/
theorem Ob.l1 {M b v0 T} (h : Ob M b [v0] T) : ∀ K : Value → Prop, OP (Go.Ab.ld 1 false (.pointer (some ⟨b, 0, none⟩)) M) K = K v0 := fun K => by rw [h.ld (v := v0) rfl, OP_some]
theorem Ob.l2 {M b v0 v1 T} (h : Ob M b [v0, v1] T) : (∀ K : Value → Prop, OP (Go.Ab.ld 1 false (.pointer (some ⟨b, 0, none⟩)) M) K = K v0) ∧ (∀ K : Value → Prop, OP (Go.Ab.ld 1 false (.pointer (some ⟨b, 1, none⟩)) M) K = K v1) ∧
    (∀ K : Value → Prop, OP (Go.Ab.ld 2 true (.pointer (some ⟨b, 0, none⟩)) M) K = K (.agg #[v0, v1])) :=
  ⟨fun K => by rw [h.ld (v := v0) rfl, OP_some], fun K => by rw [h.ld (v := v1) rfl, OP_some], fun K => by rw [h.ldA (s := 2) rfl, OP_some]⟩
theorem Ob.l3 {M b v0 v1 v2 T} (h : Ob M b [v0, v1, v2] T) : (∀ K : Value → Prop, OP (Go.Ab.ld 1 false (.pointer (some ⟨b, 0, none⟩)) M) K = K v0) ∧ (∀ K : Value → Prop, OP (Go.Ab.ld 1 false (.pointer (some ⟨b, 1, none⟩)) M) K = K v1) ∧
    (∀ K : Value → Prop, OP (Go.Ab.ld 1 false (.pointer (some ⟨b, 2, none⟩)) M) K = K v2) ∧ (∀ K : Value → Prop, OP (Go.Ab.ld 3 true (.pointer (some ⟨b, 0, none⟩)) M) K = K (.agg #[v0, v1, v2])) :=
  ⟨fun K => by rw [h.ld (v := v0) rfl, OP_some], fun K => by rw [h.ld (v := v1) rfl, OP_some], fun K => by rw [h.ld (v := v2) rfl, OP_some], fun K => by rw [h.ldA (s := 3) rfl, OP_some]⟩
theorem Ob.l4 {M b v0 v1 v2 v3 T} (h : Ob M b [v0, v1, v2, v3] T) : (∀ K : Value → Prop, OP (Go.Ab.ld 1 false (.pointer (some ⟨b, 0, none⟩)) M) K = K v0) ∧ (∀ K : Value → Prop, OP (Go.Ab.ld 1 false (.pointer (some ⟨b, 1, none⟩)) M) K = K v1) ∧
    (∀ K : Value → Prop, OP (Go.Ab.ld 1 false (.pointer (some ⟨b, 2, none⟩)) M) K = K v2) ∧ (∀ K : Value → Prop, OP (Go.Ab.ld 1 false (.pointer (some ⟨b, 3, none⟩)) M) K = K v3) ∧ (∀ K : Value → Prop, OP (Go.Ab.ld 4 true (.pointer (some ⟨b, 0, none⟩)) M) K = K (.agg #[v0, v1, v2, v3])) :=
  ⟨fun K => by rw [h.ld (v := v0) rfl, OP_some], fun K => by rw [h.ld (v := v1) rfl, OP_some], fun K => by rw [h.ld (v := v2) rfl, OP_some], fun K => by rw [h.ld (v := v3) rfl, OP_some], fun K => by rw [h.ldA (s := 4) rfl, OP_some]⟩
/-- What is touched lay there as the region began. -/
theorem Ch.tdx {M M' : Store} {b : Nat} {cells : List Value} {T : TypeId} (h : Ch [b] M M') (o : Ob M b cells T) {bs Ns : List Nat} {i : Nat} (hb : b < Ns.getD 0 0) : TDx bs Ns i M M' :=
  ⟨h.n, fun c hc => by
    rcases h.tdiff c hc with hc | hc
    · exact .inl hc
    · have : c = b := by simpa using hc
      subst this
      refine .inr ⟨by rw [show M.get c = _ from o]; rfl, ?_⟩
      unfold accB
      rw [Bool.or_eq_true]
      exact .inl (by simpa using hb)⟩
theorem tp3 (a b c : Value) : (∀ K : Value → Prop, OP (tup (.tuple #[a, b, c]) 0) K = K a) ∧ (∀ K : Value → Prop, OP (tup (.tuple #[a, b, c]) 1) K = K b) ∧ (∀ K : Value → Prop, OP (tup (.tuple #[a, b, c]) 2) K = K c) :=
  ⟨fun _ => rfl, fun _ => rfl, fun _ => rfl⟩
theorem tp2 (a b : Value) : (∀ K : Value → Prop, OP (tup (.tuple #[a, b]) 0) K = K a) ∧ (∀ K : Value → Prop, OP (tup (.tuple #[a, b]) 1) K = K b) := ⟨fun _ => rfl, fun _ => rfl⟩
/-- Two results that lie in boxes of one's own. -/
theorem two_res {S : List Nat} {M0 M : Store} {b2 b3 s2 s3 : Nat} {c2 c3 v2 v3 : List Value} {T2 T3 : TypeId} (hu : Ch S M0 M) (o2 : Ob M b2 c2 T2) (o3 : Ob M b3 c3 T3) (hne : b2 ≠ b3) (hb2 : M0.n ≤ b2) (hb3 : M0.n ≤ b3) (l2 : c2.length = s2) (l3 : c3.length = s3)
    (k2 : v2.length = s2) (k3 : v3.length = s3) (a2 : v2.all (·.oneCell') = true) (a3 : v3.all (·.oneCell') = true) {Q : Value → Store → Prop} (hQ : ∀ M', Ch S M0 M' → Ch [b2, b3] M M' → M'.n = M.n → Q (.tuple #[.agg v2.toArray, .agg v3.toArray]) M') :
    OP (st s2 (.pointer (some ⟨b2, 0, none⟩)) (.agg v2.toArray) M) fun M5 => OP (st s3 (.pointer (some ⟨b3, 0, none⟩)) (.agg v3.toArray) M5) fun M6 => OP (ld s2 true (.pointer (some ⟨b2, 0, none⟩)) M6) fun r2 => OP (ld s3 true (.pointer (some ⟨b3, 0, none⟩)) M6) fun r3 =>
      NTs [r2, r3] ∧ Q (.tuple #[r2, r3]) M6 := by
  refine s_st o2 l2 k2 a2 fun M5 h5 o2' n5 => ?_
  refine s_st (o3.fr h5 (by simpa using Ne.symm hne)) l3 k3 a3 fun M6 h6 o3' n6 => ?_
  rw [(o2'.fr h6 (by simpa using hne)).ldA k2, OP_some, o3'.ldA k3, OP_some]
  refine ⟨rfl, hQ M6 ((hu.trans' h5 fun b hb => .inr ?_).trans' h6 fun b hb => .inr ?_) (h5.trans2 h6) (by omega)⟩
  · have : b = b2 := by simpa using hb
    omega
  · have : b = b3 := by simpa using hb
    omega
/-- The same within a drawn region. -/
theorem two_resD {S : List Nat} {M0 M : Store} {b2 b3 s2 s3 i j : Nat} {c2 c3 v2 v3 : List Value} {T2 T3 : TypeId} {bs Ns bs' : List Nat} {Ns' : Store → List Nat} (hu : Ch S M0 M) (o2 : Ob M b2 c2 T2) (o3 : Ob M b3 c3 T3) (hne : b2 ≠ b3) (hb2 : M0.n ≤ b2) (hb3 : M0.n ≤ b3) (l2 : c2.length = s2) (l3 : c3.length = s3)
    (k2 : v2.length = s2) (k3 : v3.length = s3) (a2 : v2.all (·.oneCell') = true) (a3 : v3.all (·.oneCell') = true) (d2 : b2 < Ns.getD 0 0) (d3 : ∀ M8, b3 < (Ns' M8).getD 0 0) {Q : Value → Store → Prop} (hQ : ∀ M', Ch S M0 M' → Ch [b2, b3] M M' → M'.n = M.n → Q (.tuple #[.agg v2.toArray, .agg v3.toArray]) M') :
    OP (st s2 (.pointer (some ⟨b2, 0, none⟩)) (.agg v2.toArray) M) fun M5 => TDx bs Ns i M M5 ∧ OP (st s3 (.pointer (some ⟨b3, 0, none⟩)) (.agg v3.toArray) M5) fun M6 => TDx bs' (Ns' M5) j M5 M6 ∧
      OP (ld s2 true (.pointer (some ⟨b2, 0, none⟩)) M6) fun r2 => OP (ld s3 true (.pointer (some ⟨b3, 0, none⟩)) M6) fun r3 => NTs [r2, r3] ∧ Q (.tuple #[r2, r3]) M6 := by
  refine s_st o2 l2 k2 a2 fun M5 h5 o2' n5 => ⟨h5.tdx o2 d2, ?_⟩
  have o3' := o3.fr h5 (by simpa using Ne.symm hne)
  refine s_st o3' l3 k3 a3 fun M6 h6 o3'' n6 => ⟨h6.tdx o3' (d3 M5), ?_⟩
  rw [(o2'.fr h6 (by simpa using hne)).ldA k2, OP_some, o3''.ldA k3, OP_some]
  refine ⟨rfl, hQ M6 ((hu.trans' h5 fun b hb => .inr ?_).trans' h6 fun b hb => .inr ?_) (h5.trans2 h6) (by omega)⟩
  · have : b = b2 := by simpa using hb
    omega
  · have : b = b3 := by simpa using hb
    omega
/-- One result that lies in a box of one's own. -/
theorem one_res {S : List Nat} {M0 M : Store} {b2 s2 : Nat} {c2 v2 : List Value} {T2 : TypeId} (hu : Ch S M0 M) (o2 : Ob M b2 c2 T2) (hb2 : M0.n ≤ b2) (l2 : c2.length = s2) (k2 : v2.length = s2) (a2 : v2.all (·.oneCell') = true) {Q : Value → Store → Prop}
    (hQ : ∀ M', Ch S M0 M' → Ch [b2] M M' → M'.n = M.n → Q (.agg v2.toArray) M') :
    OP (st s2 (.pointer (some ⟨b2, 0, none⟩)) (.agg v2.toArray) M) fun M5 => OP (ld s2 true (.pointer (some ⟨b2, 0, none⟩)) M5) fun r2 => NTs [r2] ∧ Q r2 M5 := by
  refine s_st o2 l2 k2 a2 fun M5 h5 o2' n5 => ?_
  rw [o2'.ldA k2, OP_some]
  refine ⟨rfl, hQ M5 (hu.trans' h5 fun b hb => .inr ?_) h5 n5⟩
  have : b = b2 := by simpa using hb
  omega

end Go.Ab
