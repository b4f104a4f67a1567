/- Each operation of the abstract machine is one of the model's: those that look at no memory. -/
import Derived.Test.YtmdbdbjaipcgeaaAbRel
set_option linter.unusedVariables false
set_option linter.unusedSimpArgs false
namespace Go.Ab
open Go.RowKit

section
variable {P : Program} {μ : Map} {sh : Shp} {u : Value}
theorem VRel.int {k : IntKind} {n : Int} (h : VRel P μ sh u (.int k n)) : u = .int k n := by
  cases u <;> first | exact h.elim | (obtain ⟨rfl, rfl⟩ := h; rfl)
theorem VRel.bool {b : Bool} (h : VRel P μ sh u (.bool b)) : u = .bool b := by
  cases u <;> first | exact h.elim | (obtain rfl : _ = _ := h; rfl)
theorem VRel.string {b : ByteArray} (h : VRel P μ sh u (.string b)) : u = .string b := by
  cases u <;> first | exact h.elim | (obtain rfl : _ = _ := h; rfl)
theorem VRel.pointer {b : Option Addr} (h : VRel P μ sh u (.pointer b)) : ∃ a, u = .pointer a ∧ PtRel μ a b := by
  cases u <;> first | exact h.elim | exact ⟨_, rfl, h⟩
theorem VRel.slice {b : Option Addr} {n c : Nat} (h : VRel P μ sh u (.slice b n c)) : ∃ a c', u = .slice a n c' ∧ SlRel P μ sh a n c' b n c := by
  cases u
  case slice a n' c' =>
    have h' : SlRel P μ sh a n' c' b n c := h
    obtain rfl := h'.len
    exact ⟨_, _, rfl, h'⟩
  all_goals exact h.elim
theorem VRel.map {b : Option Nat} (h : VRel P μ sh u (.map b)) : ∃ a, u = .map a ∧ MpRel μ a b := by
  cases u <;> first | exact h.elim | exact ⟨_, rfl, h⟩
theorem VRel.func {f : Fn} {a c : Array Value} (h : VRel P μ sh u (.func f a c)) : ∃ g a' c', u = .func g a' c' ∧ FnRel μ g f ∧ LRel (BRel P μ sh) a'.toList a.toList ∧ LRel (BRel P μ sh) c'.toList c.toList := by
  cases u
  case func => obtain ⟨h0, h1, h2⟩ := h; exact ⟨_, _, _, rfl, h0, h1, h2⟩
  all_goals exact h.elim
theorem VRel.nilFunc (h : VRel P μ sh u .nilFunc) : u = .nilFunc := by
  cases u <;> first | exact h.elim | rfl
theorem VRel.nilIface (h : VRel P μ sh u .nilIface) : u = .nilIface := by
  cases u <;> first | exact h.elim | rfl
theorem VRel.iface {t : TypeId} {v : Value} (h : VRel P μ sh u (.iface t v)) : ∃ x, u = .iface t x ∧ BRel P μ sh x v := by
  cases u
  case iface => obtain ⟨rfl, h1⟩ := h; exact ⟨_, rfl, h1⟩
  all_goals exact h.elim
theorem VRel.agg {b : Array Value} (h : VRel P μ sh u (.agg b)) : ∃ a, u = .agg a ∧ LRel (CRel P μ sh) a.toList b.toList := by
  cases u <;> first | exact h.elim | exact ⟨_, rfl, h⟩
theorem VRel.tuple {b : Array Value} (h : VRel P μ sh u (.tuple b)) : ∃ a, u = .tuple a ∧ LRel (DRel P μ sh) a.toList b.toList := by
  cases u <;> first | exact h.elim | exact ⟨_, rfl, h⟩
theorem VRel.mkInt (k : IntKind) (n : Int) : VRel P μ sh (.int k n) (.int k n) := ⟨rfl, rfl⟩
theorem VRel.mkBool (b : Bool) : VRel P μ sh (.bool b) (.bool b) := rfl
theorem VRel.mkString (b : ByteArray) : VRel P μ sh (.string b) (.string b) := rfl
theorem VRel.undef : VRel P μ sh undef undef := LRel.nil _
end

theorem run_underlying' {P : Program} {t : TypeId} {d : TypeDesc} (h : P.underlying t = some d) (w : World) : (underlying t).run P w = .ok d w := by
  simp [underlying, h]
theorem run_sizeOf' {P : Program} {t : TypeId} {s : Nat} (h : szOf P t = some s) (w : World) : (sizeOf t).run P w = .ok s w := by
  unfold szOf at h
  obtain ⟨i, hi, rfl⟩ := Option.map_eq_some_iff.1 h
  simp [sizeOf, typeInfo, hi]
theorem run_zeroValue' {P : Program} {t : TypeId} {z : Value} (h : zrOf P t = some z) (w : World) : (zeroValue t).run P w = .ok z w := by
  unfold zrOf at h
  obtain ⟨i, hi, hz⟩ := Option.bind_eq_some_iff.1 h
  simp [zeroValue, typeInfo, hi, hz]
theorem run_isAgg' {P : Program} {t : TypeId} {d : TypeDesc} (h : P.underlying t = some d) (w : World) : (isAgg t).run P w = .ok (aggT d) w := by
  cases d <;> simp [isAgg, run_underlying' h, aggT]

/-! ## comparison -/
theorem run_part_one {P : Program} {t : TypeId} {d : TypeDesc} (h : P.underlying t = some d) (ha : aggT d = false) {cs : Array Value} {o : Nat} {v : Value} (hv : cs[o]? = some v) (w : World) :
    (part t cs o).run P w = .ok v w := by
  simp [part, run_isAgg' h, ha, hv]

theorem beq_bytes (a b : ByteArray) : (a == b) = decide (a = b) := by
  rw [beq_toListBytes, ByteArray.toList_eq, ByteArray.toList_eq]
  obtain ⟨⟨x⟩⟩ := a
  obtain ⟨⟨y⟩⟩ := b
  by_cases h : x = y <;> simp [h]

theorem eqFields_run {P : Program} {μ : Map} {sh : Shp} {xs ys cx cy : Array Value} (hx : LRel (CRel P μ sh) cx.toList xs.toList) (hy : LRel (CRel P μ sh) cy.toList ys.toList) (d : Nat) (w : World) :
    ∀ (fs : List Field) (b : Bool), aeqFields P xs ys fs = some b → (Op.eqFields (d + 1) cx cy fs).run P w = .ok b w
  | [], b, h => by simp [aeqFields] at h; subst h; simp [Op.eqFields]
  | f :: r, b, h => by
    have ih := eqFields_run hx hy d w r
    have gx : ∀ v, xs[f.offset]? = some v → ∃ u, cx[f.offset]? = some u ∧ CRel P μ sh u v := fun v hv => by
      obtain ⟨u, h1, h2⟩ := hx.get (i := f.offset) (v := v) (by simpa using hv)
      exact ⟨u, by simpa using h1, h2⟩
    have gy : ∀ v, ys[f.offset]? = some v → ∃ u, cy[f.offset]? = some u ∧ CRel P μ sh u v := fun v hv => by
      obtain ⟨u, h1, h2⟩ := hy.get (i := f.offset) (v := v) (by simpa using hv)
      exact ⟨u, by simpa using h1, h2⟩
    simp only [aeqFields] at h
    split at h
    · cases h
    · rename_i hn
      split at h
      · rename_i k0 k a j b0 hu h1 h2
        obtain ⟨u1, e1, r1⟩ := gx _ h1
        obtain ⟨u2, e2, r2⟩ := gy _ h2
        obtain rfl := VRel.int (.of_D (.of_C r1))
        obtain rfl := VRel.int (.of_D (.of_C r2))
        split at h
        · rename_i hkj
          subst hkj
          simp only [Op.eqFields, if_pos hn, Sem.run_bind, run_part_one hu rfl e1, run_part_one hu rfl e2, Result.andThen_ok, Op.equalIn, run_underlying' hu, if_true, Sem.run_pure]
          split at h
          · rename_i hab
            subst hab
            simpa using ih b h
          · rename_i hab
            injection h with h
            subst h
            simp [hab]
        · cases h
      · rename_i a b0 hu h1 h2
        obtain ⟨u1, e1, r1⟩ := gx _ h1
        obtain ⟨u2, e2, r2⟩ := gy _ h2
        obtain rfl := VRel.string (.of_D (.of_C r1))
        obtain rfl := VRel.string (.of_D (.of_C r2))
        simp only [Op.eqFields, if_pos hn, Sem.run_bind, run_part_one hu rfl e1, run_part_one hu rfl e2, Result.andThen_ok, Op.equalIn, run_underlying' hu, Sem.run_pure, beq_bytes]
        split at h
        · rename_i hab
          subst hab
          simpa using ih b h
        · rename_i hab
          injection h with h
          subst h
          simp [hab]
      · rename_i a b0 hu h1 h2
        obtain ⟨u1, e1, r1⟩ := gx _ h1
        obtain ⟨u2, e2, r2⟩ := gy _ h2
        obtain rfl := VRel.bool (.of_D (.of_C r1))
        obtain rfl := VRel.bool (.of_D (.of_C r2))
        simp only [Op.eqFields, if_pos hn, Sem.run_bind, run_part_one hu rfl e1, run_part_one hu rfl e2, Result.andThen_ok, Op.equalIn, run_underlying' hu, Sem.run_pure]
        split at h
        · rename_i hab
          subst hab
          simpa using ih b h
        · rename_i hab
          injection h with h
          subst h
          simp [hab]
      · cases h

set_option maxHeartbeats 2000000 in
theorem aeq_run' {P : Program} {μ : Map} {sh : Shp} {cst : Bool} {t : TypeId} {x y cx cy : Value} {b : Bool} (h : aeq P cst t x y = some b) (hx : VRel P μ sh cx x) (hy : VRel P μ sh cy y) (w : World) (d : Nat) :
    (Op.equalIn (d + 2) t cx cy).run P w = .ok b w := by
  unfold aeq at h
  split at h
  · rename_i hu
    obtain rfl := hx.bool; obtain rfl := hy.bool
    injection h with h; subst h
    simp only [Op.equalIn, Sem.run_bind, run_underlying' hu, Result.andThen_ok, Sem.run_pure] <;> rfl
  · rename_i hu
    obtain ⟨a, rfl, ha⟩ := hx.pointer; obtain ⟨c, rfl, hc⟩ := hy.pointer
    injection h with h; subst h
    cases a <;> first | exact ha.elim | skip
    rename_i y1
    cases y1 <;> cases c <;> first | exact hc.elim | skip
    all_goals simp only [Op.equalIn, Sem.run_bind, run_underlying' hu, Result.andThen_ok, Sem.run_pure] <;> rfl
  · rename_i hu
    obtain ⟨a, rfl, ha⟩ := hx.pointer; obtain ⟨c, rfl, hc⟩ := hy.pointer
    injection h with h; subst h
    cases a <;> cases c <;> first | exact hc.elim | exact ha.elim | skip
    all_goals simp only [Op.equalIn, Sem.run_bind, run_underlying' hu, Result.andThen_ok, Sem.run_pure] <;> rfl
  · rename_i hu
    obtain ⟨a, c1, rfl, ha⟩ := hx.slice; obtain ⟨c, c2, rfl, hc⟩ := hy.slice
    injection h with h; subst h
    have h1 := ha.some_; have h2 := hc.some_
    cases a <;> simp at h1
    simp only [Op.equalIn, Sem.run_bind, run_underlying' hu, Result.andThen_ok, Sem.run_pure]
    rw [← Option.not_isSome, ← Option.not_isSome, h2]
  · rename_i hu
    obtain ⟨a, c1, rfl, ha⟩ := hx.slice; obtain ⟨c, c2, rfl, hc⟩ := hy.slice
    injection h with h; subst h
    have h1 := ha.some_; have h2 := hc.some_
    cases a <;> simp at h1
    cases c <;> simp at h2
    simp only [Op.equalIn, Sem.run_bind, run_underlying' hu, Result.andThen_ok, Sem.run_pure] <;> rfl
  · rename_i hu
    obtain ⟨a, rfl, ha⟩ := hx.map; obtain ⟨c, rfl, hc⟩ := hy.map
    injection h with h; subst h
    cases a <;> first | exact ha.elim | skip
    rename_i y1
    cases y1 <;> cases c <;> first | exact hc.elim | skip
    all_goals simp only [Op.equalIn, Sem.run_bind, run_underlying' hu, Result.andThen_ok, Sem.run_pure] <;> rfl
  · rename_i hu
    obtain ⟨a, rfl, ha⟩ := hx.map; obtain ⟨c, rfl, hc⟩ := hy.map
    injection h with h; subst h
    cases a <;> cases c <;> first | exact hc.elim | exact ha.elim | skip
    all_goals simp only [Op.equalIn, Sem.run_bind, run_underlying' hu, Result.andThen_ok, Sem.run_pure] <;> rfl
  · rename_i hu
    obtain rfl := hx.nilFunc; obtain rfl := hy.nilFunc
    injection h with h; subst h
    simp only [Op.equalIn, Sem.run_bind, run_underlying' hu, Result.andThen_ok, Sem.run_pure] <;> rfl
  · rename_i hu
    obtain rfl := hx.nilFunc; obtain ⟨_, _, _, rfl, _⟩ := hy.func
    injection h with h; subst h
    simp only [Op.equalIn, Sem.run_bind, run_underlying' hu, Result.andThen_ok, Sem.run_pure] <;> rfl
  · rename_i hu
    obtain rfl := hy.nilFunc; obtain ⟨_, _, _, rfl, _⟩ := hx.func
    injection h with h; subst h
    simp only [Op.equalIn, Sem.run_bind, run_underlying' hu, Result.andThen_ok, Sem.run_pure] <;> rfl
  · rename_i hu
    obtain rfl := hx.nilIface; obtain rfl := hy.nilIface
    split at h
    · injection h with h; subst h
      simp only [Op.equalIn, Sem.run_bind, run_underlying' hu, Result.andThen_ok, Sem.run_pure] <;> rfl
    · cases h
  · rename_i hu
    obtain rfl := hx.nilIface; obtain ⟨_, rfl, _⟩ := hy.iface
    injection h with h; subst h
    simp only [Op.equalIn, Sem.run_bind, run_underlying' hu, Result.andThen_ok, Sem.run_pure] <;> rfl
  · rename_i hu
    obtain rfl := hy.nilIface; obtain ⟨_, rfl, _⟩ := hx.iface
    injection h with h; subst h
    simp only [Op.equalIn, Sem.run_bind, run_underlying' hu, Result.andThen_ok, Sem.run_pure] <;> rfl
  · rename_i fs xs ys hu
    obtain ⟨a, rfl, ha⟩ := hx.agg; obtain ⟨c, rfl, hc⟩ := hy.agg
    split at h
    · cases h
    · rename_i hg
      simp only [Bool.or_eq_true, not_or, Bool.not_eq_true] at hg
      have hf : P.fieldsOf t = fs := by simp [Program.fieldsOf, hu]
      rw [run_equalIn_struct w (d + 1) t a c (by rw [hf]; exact hu) hg.1, hf]
      exact eqFields_run ha hc d w _ b h
  · cases h

theorem aeq_run {P : Program} {μ : Map} {sh : Shp} {cst : Bool} {t : TypeId} {x y cx cy : Value} {b : Bool} (h : aeq P cst t x y = some b) (hx : VRel P μ sh cx x) (hy : VRel P μ sh cy y) (w : World) :
    (Op.equal t cx cy).run P w = .ok b w := aeq_run' h hx hy w 9998

/-- The guard of '==' lets by what the abstract machine compares. -/
theorem eqGuard_run {P : Program} {μ : Map} {sh : Shp} {op : BinOp} {t : TypeId} {ox oy : Operand} {x y cx cy : Value} {r : Value} (h : abin P (isConstO ox || isConstO oy) op t x y = some r) (hx : VRel P μ sh cx x) (hy : VRel P μ sh cy y) (w : World) :
    (eqGuard op t ox oy cx cy).run P w = .ok () w := by
  cases op <;> try (simp [eqGuard]; done)
  all_goals
    unfold eqGuard
    cases cx <;> try (simp; done)
    case nilIface =>
      cases cy <;> try (simp; done)
      cases x <;> first | exact hx.elim | skip
      cases y <;> first | exact hy.elim | skip
      have hc : (isConstO ox || isConstO oy) = true := by
        cases hq : (isConstO ox || isConstO oy) with
        | true => rfl
        | false =>
          rw [hq] at h
          simp only [abin, aeq] at h
          revert h
          split <;> simp_all
      simp only [Bool.or_eq_true] at hc
      cases ox <;> cases oy <;> simp [isConstO] at hc <;> simp
    case agg a =>
      cases cy <;> try (simp; done)
      cases x <;> first | exact hx.elim | skip
      cases y <;> first | exact hy.elim | skip
      have hg : P.eqGuardType P.depth t = false := by
        cases hq : P.eqGuardType P.depth t with
        | false => rfl
        | true =>
          simp only [abin, aeq] at h
          revert h
          split <;> simp_all
      simp [hg]

theorem abin_run {P : Program} {μ : Map} {sh : Shp} {op : BinOp} {t : TypeId} {cst : Bool} {x y cx cy : Value} {r : Value} (h : abin P cst op t x y = some r) (hx : VRel P μ sh cx x) (hy : VRel P μ sh cy y) (w : World) :
    (binOp op t cx cy).run P w = .ok r w ∧ VRel P μ sh r r := by
  unfold abin at h
  split at h
  · obtain rfl := hx.int; obtain rfl := hy.int
    cases op <;> (try simp only [] at h) <;> (repeat (split at h)) <;> (first | (cases h; done) | skip) <;> (repeat (split at h)) <;> first | (cases h; done) | skip
    all_goals (injection h with h; subst h; refine ⟨?_, ?_⟩ <;> first | exact VRel.mkInt _ _ | exact VRel.mkBool _ | skip)
    all_goals simp_all [binOp, Op.shift, Op.intArith, Op.intDiv, Op.intBits, Op.intCmp]
    all_goals omega
  · obtain rfl := hx.string; obtain rfl := hy.string
    cases op <;> (try simp only [] at h) <;> (repeat (split at h)) <;> first | (cases h; done) | skip
    all_goals (injection h with h; subst h; refine ⟨?_, ?_⟩ <;> first | exact VRel.mkString _ | exact VRel.mkBool _ | skip)
    all_goals simp only [binOp, Op.stringOp, Sem.run_pure, ByteArray.toList_eq]
    rename_i hle
    rw [if_neg (by simp [IntKind.max, IntKind.bits, IntKind.signed]; omega)]
    rfl
  · rename_i n1 n2
    have hb : ∀ b, aeq P cst t x y = some b → (Op.equal t cx cy).run P w = .ok b w := fun b h => aeq_run h hx hy w
    have h1 : ∀ k a j b, cx = .int k a → cy ≠ .int j b := by
      rintro k a j b rfl rfl
      cases x <;> first | exact hx.elim | skip
      cases y <;> first | exact hy.elim | skip
      exact n1 _ _ _ _ rfl rfl
    have h2 : ∀ a b, cx = .string a → cy ≠ .string b := by
      rintro a b rfl rfl
      cases x <;> first | exact hx.elim | skip
      cases y <;> first | exact hy.elim | skip
      exact n2 _ _ rfl rfl
    have hfl : ∀ k a, cx ≠ .float k a := by rintro k a rfl; cases x <;> exact hx.elim
    have hco : ∀ k a b, cx ≠ .complex k a b := by rintro k a b rfl; cases x <;> exact hx.elim
    split at h
    · obtain ⟨b, hb', h⟩ := Option.bind_eq_some_iff.1 h
      injection h with h; subst h
      refine ⟨?_, VRel.mkBool _⟩
      have e : binOp .eql t cx cy = (do pure (.bool (← Op.equal t cx cy))) := by
        cases cx <;> cases cy <;> first | rfl | (exact absurd rfl (h1 _ _ _ _ rfl)) | (exact absurd rfl (h2 _ _ rfl)) | (exact absurd rfl (hfl _ _)) | (exact absurd rfl (hco _ _ _))
      rw [e]
      simp [hb _ hb']
    · obtain ⟨b, hb', h⟩ := Option.bind_eq_some_iff.1 h
      injection h with h; subst h
      refine ⟨?_, VRel.mkBool _⟩
      have e : binOp .neq t cx cy = (do pure (.bool (!(← Op.equal t cx cy)))) := by
        cases cx <;> cases cy <;> first | rfl | (exact absurd rfl (h1 _ _ _ _ rfl)) | (exact absurd rfl (h2 _ _ rfl)) | (exact absurd rfl (hfl _ _)) | (exact absurd rfl (hco _ _ _))
      rw [e]
      simp [hb _ hb']
    · cases h

end Go.Ab
