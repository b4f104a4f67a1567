/- The abstract machine's append is the model's. -/
import Derived.Test.YtmdbdbjaipcgeaaAbMem4
set_option linter.unusedVariables false
set_option linter.unusedSimpArgs false
namespace Go.Ab
open Go.RowKit

theorem info_of {P : Program} {e : TypeId} {s b : Nat} (hs : szOf P e = some s) (hb : byOf P e = some b) : ∃ i, P.info? e = some i ∧ i.size = s ∧ i.bytes = b := by
  unfold szOf at hs; unfold byOf at hb
  obtain ⟨i, hi, h1⟩ := Option.map_eq_some_iff.1 hs
  rw [hi] at hb
  exact ⟨i, hi, h1, by simpa using hb⟩

theorem zeroCells_eq (z : Value) (n : Nat) : Builtin.zeroCells z.cells n = zerosOf z (n * z.cells.size) := rfl

section
variable {P : Program} {w : World} {ts : Array TypeId} {ty t xt e : TypeId} {s by_ n m cap : Nat} {base : Option Addr} {cx : Value} {cn : Array Value}

theorem askRoom_run (k : Nat) (w : World) : (askRoom k).run P w = .ok () w := by
  unfold askRoom
  split <;> simp [mark, Sem.run]

/-- What is appended: how many, and its cells, in whatever world that has the same memory. -/
def News (P : Program) (w : World) (xt e : TypeId) (s m : Nat) (cx : Value) (cn : Array Value) : Prop :=
  (∃ z, (∃ k, P.underlying xt = some (.int k)) ∧ cx = .int .i64 m ∧ m ≤ 2 ^ 28 ∧ (byOf P e).getD 0 ≤ 2 ^ 12 ∧ zrOf P e = some z ∧ z.cells.size = s ∧ cn = zerosOf z (m * s)) ∨
  (∃ d, P.underlying xt = some d ∧ (∀ k, d ≠ .int k) ∧ (Builtin.lenOf cx).run P w = .ok m w ∧ ∀ w' : World, w'.heap = w.heap → (Builtin.firstCells s m cx).run P w' = .ok cn w')

theorem append_fit (ht : ts[0]? = some t) (hxt : ts[1]? = some xt) (hu : P.underlying t = some (.slice e)) (hs : szOf P e = some s) (hb : byOf P e = some by_) (hN : News P w xt e s m cx cn) (hle : n + m ≤ cap) (w' : World)
    (hst : match base with | some a => (storeCells (a.add (n * s)) cn.toList).run P w = .ok () w' | none => w' = w) :
    (Builtin.append_ ts ty #[.slice base n cap, cx]).run P w = .ok (.slice base (n + m) cap) w' := by
  obtain ⟨i, hi, his, hib⟩ := info_of hs hb
  rcases hN with ⟨z, ⟨k, hk⟩, rfl, hm, hb12, hz, hzs, rfl⟩ | ⟨d, hd, hnd, hl, hf⟩
  · have h1 : IntKind.i64.wrap (m : Int) = m := IntWalk.i64_in _ (by omega)
    have h2 : ¬ ((m : Int) < 0) := by omega
    have h3 : ¬ ((m : Int) * (by_ : Int) > 2 ^ 48) := by
      have : m * by_ ≤ 2 ^ 28 * 2 ^ 12 := Nat.mul_le_mul hm (by rw [hb] at hb12; simpa using hb12)
      have e1 : ((m * by_ : Nat) : Int) ≤ ((2 ^ 28 * 2 ^ 12 : Nat) : Int) := by exact_mod_cast this
      have e2 : ((2 ^ 28 * 2 ^ 12 : Nat) : Int) = 1099511627776 := by decide
      have e3 : (2 : Int) ^ 48 = 281474976710656 := by decide
      rw [e2] at e1
      rw [e3]
      push_cast at e1
      omega
    have h4 : (if m * s = 0 then Result.ok #[] w else (Sem.run P (zeroValue e) w).andThen fun a w' => Result.ok (Builtin.zeroCells a.cells m) w') = .ok (zerosOf z (m * s)) w := by
      split
      · rename_i h0; simp [h0, zerosOf]
      · rw [run_zeroValue' hz, Result.andThen_ok, zeroCells_eq, hzs]
    simp only [Builtin.append_, ht, hxt, run_underlying' hu, run_underlying' hk, run_sizeOf' hs, Sem.run_bind, Result.andThen_ok, Sem.run_pure, asInt, asIntOf, h1, typeInfo, run_program, hi, hib, Sem.run_ite, if_neg h2, if_neg h3, List.getElem?_toArray, List.getElem?_cons_zero, List.getElem?_cons_succ, Int.toNat_natCast, if_pos hle, if_true, Bool.not_true, Bool.false_eq_true, if_false, h4]
    cases base with
    | none => simp at hst; subst hst; rfl
    | some a => simp only [Sem.run_bind, hst, Result.andThen_ok, Sem.run_pure]
  · have hf := hf w rfl
    cases d <;> first | exact absurd rfl (hnd _) | skip
    all_goals
      simp only [Builtin.append_, ht, hxt, run_underlying' hu, run_underlying' hd, run_sizeOf' hs, Sem.run_bind, Result.andThen_ok, Sem.run_pure, hl, hf, Sem.run_ite, List.getElem?_toArray, List.getElem?_cons_zero, List.getElem?_cons_succ, if_pos hle, if_true, Bool.not_false, Bool.false_eq_true, if_false]
      cases base with
      | none => simp at hst; subst hst; rfl
      | some a => simp only [Sem.run_bind, hst, Result.andThen_ok, Sem.run_pure]

theorem append_grow (ht : ts[0]? = some t) (hxt : ts[1]? = some xt) (hu : P.underlying t = some (.slice e)) (hs : szOf P e = some s) (hb : byOf P e = some by_) (hN : News P w xt e s m cx cn) (hle : cap < n + m)
    (hnm : n + m ≤ 2 ^ 28) (hby : by_ ≤ 2 ^ 12) {z : Value} (hz : zrOf P e = some z) {old : Array Value} (hold : ∀ w' : World, w'.heap = w.heap → (Builtin.firstCells s n (.slice base n cap)).run P w' = .ok old w') :
    (Builtin.append_ ts ty #[.slice base n cap, cx]).run P w = .ok (.slice (some ⟨w.heap.size, 0, none⟩) (n + m) (grownCap w (n + m) cap e))
      (w.drew.alloc (.cells (old ++ cn ++ Builtin.zeroCells z.cells (grownCap w (n + m) cap e - (n + m))) e)) := by
  obtain ⟨i, hi, his, hib⟩ := info_of hs hb
  have hnle : ¬ n + m ≤ cap := by omega
  have g1 : ¬ (((n + m : Nat) : Int) > IntKind.i64.max) := by simp [IntKind.max, IntKind.bits, IntKind.signed]; omega
  have g2 : ¬ (Builtin.nextslicecap (n + m) cap * by_ > 2 ^ 48) := by
    have : (n + m) * by_ ≤ 2 ^ 28 * 2 ^ 12 := Nat.mul_le_mul hnm hby
    have := growslice_fits (bytes := by_) hle (by omega)
    omega
  have gc : ∀ (w : World), (choose (.appendCap (n + m) cap e)).run P w = .ok (grownCap w (n + m) cap e) w.drew := by
    intro w
    simp [Question.forced, grownCap]
  rcases hN with ⟨z', ⟨k, hk⟩, rfl, hm, hb12, hz', hzs, rfl⟩ | ⟨d, hd, hnd, hl, hf⟩
  · have h1 : IntKind.i64.wrap (m : Int) = m := IntWalk.i64_in _ (by omega)
    have h2 : ¬ ((m : Int) < 0) := by omega
    have h3 : ¬ ((m : Int) * (by_ : Int) > 2 ^ 48) := by
      have : m * by_ ≤ 2 ^ 28 * 2 ^ 12 := Nat.mul_le_mul hm (by rw [hb] at hb12; simpa using hb12)
      have e1 : ((m * by_ : Nat) : Int) ≤ ((2 ^ 28 * 2 ^ 12 : Nat) : Int) := by exact_mod_cast this
      have e2 : ((2 ^ 28 * 2 ^ 12 : Nat) : Int) = 1099511627776 := by decide
      have e3 : (2 : Int) ^ 48 = 281474976710656 := by decide
      rw [e2] at e1
      rw [e3]
      push_cast at e1
      omega
    have h4 : ∀ w, (if m * s = 0 then Result.ok #[] w else (Sem.run P (zeroValue e) w).andThen fun a w' => Result.ok (Builtin.zeroCells a.cells m) w') = .ok (zerosOf z' (m * s)) w := by
      intro w
      split
      · rename_i h0; simp [h0, zerosOf]
      · rw [run_zeroValue' hz', Result.andThen_ok, zeroCells_eq, hzs]
    simp only [Builtin.append_, ht, hxt, run_underlying' hu, run_underlying' hk, run_sizeOf' hs, Sem.run_bind, Result.andThen_ok, Sem.run_pure, asInt, asIntOf, h1, typeInfo, run_program, hi, hib, Sem.run_ite, if_neg h2, if_neg h3, List.getElem?_toArray, List.getElem?_cons_zero, List.getElem?_cons_succ, Int.toNat_natCast, if_neg hnle, if_true, Bool.not_true, Bool.false_eq_true, if_false, h4, g1, false_and, g2, gc, askRoom_run, hold w.drew rfl, run_zeroValue' hz]
    obtain rfl : z = z' := by rw [hz] at hz'; injection hz'
    simp [newRow]
    split
    · rename_i h0
      have : zerosOf z (m * s) = #[] := by rw [h0]; simp [zerosOf]
      simp [this]
    · rw [zeroCells_eq z m, hzs]
  · have hf := hf w.drew rfl
    cases d <;> first | exact absurd rfl (hnd _) | skip
    all_goals
      simp only [Builtin.append_, ht, hxt, run_underlying' hu, run_underlying' hd, run_sizeOf' hs, Sem.run_bind, Result.andThen_ok, Sem.run_pure, hl, typeInfo, run_program, hi, hib, Sem.run_ite, List.getElem?_toArray, List.getElem?_cons_zero, List.getElem?_cons_succ, if_neg hnle, if_true, Bool.not_false, Bool.false_eq_true, if_false, g1, false_and, false_or, g2, gc, askRoom_run, hold w.drew rfl, hf, run_zeroValue' hz]
      simp [newRow]
end

theorem anews_run {P : Program} {μ : Map} {M : Store} {w : World} (hR : Rel P μ M w) {e xt : TypeId} {s : Nat} {x cx : Value} {m : Nat} {ys : List Value} (h : anews P e xt s x M = some (m, ys)) (hx : VRel P μ w.shape? cx x) :
    ∃ cn : Array Value, News P w xt e s m cx cn ∧ LRel (CRel P μ w.shape?) cn.toList ys ∧ ys.length = m * s := by
  unfold anews at h
  split at h
  · rename_i k n hk
    obtain rfl := hx.int
    obtain ⟨z, hz, h⟩ := Option.bind_eq_some_iff.1 h
    split at h
    · rename_i hp
      obtain ⟨h0, h1, h2, h3, h4⟩ := hp
      rw [zerosL_eq] at h
      injection h with h; injection h with h h'; subst h; subst h'
      obtain ⟨n, rfl⟩ := Int.eq_ofNat_of_zero_le h0
      refine ⟨zerosOf z (n * s), .inl ⟨z, ⟨k, hk⟩, rfl, by omega, h2, hz, h3, rfl⟩, ?_, by simp [zerosOf_size]⟩
      simp only [Int.toNat_natCast]
      by_cases hz0 : 0 < z.cells.size
      · exact zerosOf_rel h4 hz0 _
      · have : n * s = 0 := by rw [← h3, Nat.eq_zero_of_not_pos hz0, Nat.mul_zero]
        rw [this]; simp [zerosOf, LRel]
    · cases h
  · rename_i e' n cap hk
    obtain ⟨ac, cc, rfl, hs⟩ := hx.slice
    split at h
    · rename_i h0
      subst h0
      injection h with h; injection h with h h'; subst h; subst h'
      have := hs.some_
      cases ac <;> simp at this
      exact ⟨#[], .inr ⟨_, hk, fun k => by simp, by simp [Builtin.lenOf], fun w' _ => by simp [Builtin.firstCells]⟩, .nil _, by simp⟩
    · cases h
  · rename_i e' b o n cap hk
    obtain ⟨ac, cc, rfl, hs⟩ := hx.slice
    have := hs.some_
    cases ac with
    | none => simp at this
    | some a =>
      split at h
      · rename_i h0
        subst h0
        injection h with h; injection h with h h'; subst h; subst h'
        exact ⟨#[], .inr ⟨_, hk, fun k => by simp, by simp [Builtin.lenOf], fun w' _ => by simp [Builtin.firstCells, loadCells, loadCellsFrom]⟩, .nil _, by simp⟩
      · rename_i h0
        obtain ⟨cs, hc, h⟩ := Option.bind_eq_some_iff.1 h
        injection h with h; injection h with h h'; subst h; subst h'
        obtain ⟨y, hy, ⟨_, loc, hloc, hyl⟩, _⟩ := hs.addr (.inl (by omega)) _ rfl
        injection hy with hy
        subst hy; subst hyl
        obtain ⟨us, h1, h2, h3⟩ := row_rel hR hc hloc
        refine ⟨us.toArray, .inr ⟨_, hk, fun k => by simp, by simp [Builtin.lenOf], fun w' hw => ?_⟩, by simpa using h1, by rw [← h1.1, h2]⟩
        simp only [Builtin.firstCells]
        exact run_loadRow loc.b (loc.o + o) (n * s) h2 fun j v hj => by
          have := h3 j v hj
          simpa [World.cell?, hw] using this
  · rename_i str hk
    obtain rfl := hx.string
    split at h
    · rename_i hs1
      subst hs1
      injection h with h; injection h with h h'; subst h; subst h'
      have hd : str.data.toList.length = str.size := by rw [Array.length_toList]; rfl
      refine ⟨str.data.map fun b => .int .u8 b.toNat, .inr ⟨_, hk, fun k => by simp, by simp [Builtin.lenOf], fun w' _ => ?_⟩, ?_, by simp [hd]⟩
      · have : str.extract 0 str.size = str := by simp
        simp [Builtin.firstCells, this]
      · rw [Array.toList_map]
        exact LRel.plain fun v hv => by simp only [List.mem_map] at hv; obtain ⟨b, _, rfl⟩ := hv; rfl
    · cases h
  · cases h

theorem NewB.drew_alloc (w : World) (o : Obj) : NewB w (w.drew.alloc o) o := ⟨rfl, rfl, rfl, rfl⟩

end Go.Ab
