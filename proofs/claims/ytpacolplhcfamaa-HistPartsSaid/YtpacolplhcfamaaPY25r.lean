/- What is told in a list: one written over. -/
import Derived.Test.YtpacolplhcfamaaPY25a
namespace Go.G
open Go.Ab Go.Proofs Go.RowKit
set_option linter.unusedVariables false
set_option linter.unusedSimpArgs false
abbrev NQM (M0 M : Store) (v : Value) (ds : List DQ) : Prop := NK 4 qcs Ty.api_Done M0 M v ds
theorem bl_q' (p : DQ) : bldL (.agg #[(.string ⟨#[]⟩), (.int .i64 0), (.int .i64 0), (.slice none 0 0)]) 4 1 [(0, .agg (qcs p).toArray)] = some (qcs p) := by obtain ⟨⟨a, b, c, d⟩, x, y, z⟩ := p; kernel_rfl
theorem bl_q0' : bldL (.agg #[(.string ⟨#[]⟩), (.int .i64 0), (.int .i64 0), (.slice none 0 0)]) 4 0 [] = some [] := by kernel_rfl
theorem fm_set4 (ds : List DQ) {i : Nat} (hi : i < ds.length) (q : DQ) : (ds.set i q).flatMap qcs = splice (ds.flatMap qcs) (i * 4) (qcs q) := by
  rw [List.set_eq_take_append_cons_drop, if_pos hi, List.flatMap_append, List.flatMap_cons]
  unfold splice
  rw [fm_take qcs_len, show i * 4 + (qcs q).length = (i + 1) * 4 from by rw [qcs_len]; omega, fm_drop qcs_len, List.append_assoc]
theorem splice_take (c l : List Value) (o n : Nat) (h : o + l.length ≤ n) (hn : n ≤ c.length) : (splice c o l).take n = splice (c.take n) o l := by
  unfold splice
  rw [List.take_append, List.take_append, List.take_take, List.length_append, List.length_take, Nat.min_eq_right (by omega), Nat.min_eq_left (show o ≤ c.length by omega), List.take_of_length_le (show l.length ≤ n - o by omega), List.drop_take, List.take_take, Nat.min_eq_left (show o ≤ n by omega)]
theorem splice_len (c l : List Value) (o : Nat) (h : o + l.length ≤ c.length) : (splice c o l).length = c.length := by
  unfold splice
  simp only [List.length_append, List.length_take, List.length_drop]; omega
theorem nq_put {M0 M : Store} {v : Value} {ds : List DQ} (h : NQM M0 M v ds) {i : Nat} (hi : i < ds.length) (q : DQ) {K : Store → Prop}
    (hK : ∀ M' b, bx v = some b → M0.n ≤ b → b < M.n → (M.get b).isSome = true → Ch [b] M M' → NQM M0 M' v (ds.set i q) → Keep Ty.api_Done M M' → K M') : (OP (ixA 4 v (iv (i : Int))) fun p => OP (st 4 p (.agg (qcs q).toArray) M) K) := by
  obtain ⟨h1, ⟨h0, _⟩ | ⟨b, cells, c, rfl, hb, h4, h5, h6, h7⟩⟩ := h
  · omega
  · have e : ixA 4 (.slice (some ⟨b, 0, none⟩) ds.length c) (iv (i : Int)) = some (.pointer (some ⟨b, 0 + i * 4, none⟩)) := by
      simp only [ixA, iv]; rw [if_pos ⟨by omega, by omega, trivial⟩]; simp
    have hob : Ob M b cells Ty.api_Done := h4
    have hq : (qcs q).length = 4 := qcs_len q
    have hle : i * 4 + (qcs q).length ≤ ds.length * 4 := by rw [hq]; omega
    have e2 : st 4 (.pointer (some ⟨b, 0 + i * 4, none⟩)) (.agg (qcs q).toArray) M = some (M.set b (some (.inl (splice cells (i * 4) (qcs q), Ty.api_Done, true)))) := by
      have hc : (Value.agg (qcs q).toArray).cells = (qcs q).toArray := rfl
      simp only [st, h4, hc]
      rw [if_pos ⟨by simp [hq], by simp only [List.size_toArray]; omega, by simpa using qcs_one q⟩, Nat.zero_add]
    rw [e, OP_some, e2, OP_some]
    have c1 : Ch [b] M (M.set b (some (.inl (splice cells (i * 4) (qcs q), Ty.api_Done, true)))) := Ch.setO hob _
    refine hK _ b rfl hb (M.lt_of_get h4) (by rw [h4]; rfl) c1 ⟨?_, .inr ⟨b, splice cells (i * 4) (qcs q), c, ?_, hb, hob.setSt _, ?_, ?_, ?_⟩⟩ (c1.keepT hob)
    · rw [fm_length qcs_len, List.length_set]
    · rw [List.length_set]
    · rw [List.length_set, splice_len _ _ _ (by omega)]; exact h5
    · rw [List.length_set, splice_take _ _ _ _ hle h5, h6, fm_set4 ds hi]
    · rw [List.length_set]; exact h7
end Go.G
