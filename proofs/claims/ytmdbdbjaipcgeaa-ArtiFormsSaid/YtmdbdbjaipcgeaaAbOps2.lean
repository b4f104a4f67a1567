/- Each operation of the abstract machine is one of the model's: cuts, places, fields. -/
import Derived.Test.YtmdbdbjaipcgeaaAbOps
set_option linter.unusedVariables false
set_option linter.unusedSimpArgs false
namespace Go.Ab
open Go.RowKit

theorem addr_add (b o n : Nat) : (⟨b, o, none⟩ : Addr).add n = ⟨b, o + n, none⟩ := by unfold Addr.add; split <;> simp_all
theorem AddrRel.add {μ : Map} {a a' : Addr} (h : AddrRel μ a a') (n : Nat) : AddrRel μ (a.add n) (a'.add n) := by
  obtain ⟨h1, l, h2, rfl⟩ := h
  obtain ⟨b, o, s⟩ := a'
  subst h1
  rw [addr_add, addr_add]
  exact ⟨rfl, l, h2, by simp [Nat.add_assoc]⟩
theorem AddrRel.add' {μ : Map} {a a' : Addr} (h : AddrRel μ a a') (n : Nat) : AddrRel μ (a.add n) ⟨a'.block, a'.off + n, none⟩ := by
  have := h.add n
  obtain ⟨b, o, s⟩ := a'
  obtain ⟨h1, _⟩ := h
  subst h1
  rwa [addr_add] at this

def ORel (R : Value → Value → Prop) : Option Value → Option Value → Prop
  | none, none => True
  | some u, some v => R u v
  | _, _ => False

theorem sliceBound_run {P : Program} {μ : Map} {sh : Shp} {cv v : Value} {y y' d n : Nat} (hv : VRel P μ sh cv v) (h : abound (some v) y d = some n) (hy : y ≤ y') (code : BoundsCode) (w : World) :
    (Instr.sliceBound cv y' code).run P w = .ok n w ∧ n ≤ y := by
  unfold abound at h
  cases v <;> simp only [] at h <;> first | (cases h; done) | skip
  rename_i k i
  obtain rfl := hv.int
  split at h
  · rename_i hi
    injection h with h
    subst h
    refine ⟨?_, by omega⟩
    simp only [Instr.sliceBound, asIntOf, Sem.run_bind, Sem.run_pure, Result.andThen_ok]
    rw [if_pos ⟨hi.1, by omega⟩]
    rfl
  · cases h

set_option maxHeartbeats 1000000 in
theorem aslice_run {P : Program} {μ : Map} {M : Store} {w : World} {t : TypeId} {x cx : Value} {lo hi mx clo chi cmx : Option Value} {r : Value} (hR : Rel P μ M w) (h : aslice P t x lo hi mx M = some r)
    (hx : VRel P μ w.shape? cx x) (hlo : ORel (VRel P μ w.shape?) clo lo) (hhi : ORel (VRel P μ w.shape?) chi hi) (hmx : ORel (VRel P μ w.shape?) cmx mx) :
    ∃ cr, (Instr.slice t cx clo chi cmx).run P w = .ok cr w ∧ VRel P μ w.shape? cr r := by
  unfold aslice at h
  split at h
  · rename_i s hu
    obtain rfl := hx.string
    split at h
    · cases h
    · rename_i hm
      cases mx <;> simp at hm
      cases cmx <;> first | exact hmx.elim | skip
      obtain ⟨hh, hh1, h⟩ := Option.bind_eq_some_iff.1 h
      obtain ⟨l, hl1, h⟩ := Option.bind_eq_some_iff.1 h
      injection h with h
      subst h
      refine ⟨_, ?_, VRel.mkString _⟩
      have e1 : (match chi with
          | some v => Instr.sliceBound v s.size .sliceAlen
          | none => pure s.size : Sem Nat).run P w = .ok hh w := by
        cases chi <;> cases hi <;> first | exact hhi.elim | skip
        · simp [abound] at hh1; subst hh1; rfl
        · exact (sliceBound_run hhi hh1 (Nat.le_refl _) _ w).1
      have e2 : (match clo with
          | some v => Instr.sliceBound v hh .sliceB
          | none => pure 0 : Sem Nat).run P w = .ok l w := by
        cases clo <;> cases lo <;> first | exact hlo.elim | skip
        · simp [abound] at hl1; subst hl1; rfl
        · exact (sliceBound_run hlo hl1 (Nat.le_refl _) _ w).1
      cases chi <;> cases clo <;> simp_all [Instr.slice, run_underlying' hu, Instr.sliceBounds]
  · rename_i e a len ca hu
    obtain ⟨ac, cc, rfl, hs⟩ := hx.slice
    obtain ⟨size, hsz, h⟩ := Option.bind_eq_some_iff.1 h
    have hsize := run_sizeOf' hsz w
    -- what a cut has
    have key : ∀ (l hh m cap' : Nat), l ≤ hh → hh ≤ len → hh ≤ m → m ≤ cc → (cap' = hh - l → m = hh) → (cap' = hh - l + 1 → l < hh ∨ (l = 0 ∧ (0 < len ∨ ca = len + 1) ∧ elemOk M a e = true)) → (l = hh ∨ elemOk M a e = true) →
        VRel P μ w.shape? (.slice (if m = l then ac else ac.map (·.add (l * size))) (hh - l) (m - l)) (.slice (a.map (·.add (l * size))) (hh - l) cap') := by
      intro l hh m cap' h1 h2 h3 h4 h5 h6 h7
      refine ⟨rfl, by omega, by have := hs.max; omega, fun q => by have := h5 q; omega, ?_, ?_, ?_⟩
      · have := hs.some_
        split <;> cases ac <;> cases a <;> simp_all
      · intro q
        cases a with
        | none => have := hs.nil rfl; omega
        | some a => simp at q
      · intro q x hx
        have hlt : l < hh ∨ (l = 0 ∧ (0 < len ∨ ca = len + 1) ∧ elemOk M a e = true) := q.elim (fun q => .inl (by omega)) h6
        have h7 : elemOk M a e = true := hlt.elim (fun q => h7.resolve_left (by omega)) fun q => q.2.2
        have hkn : 0 < len ∨ ca = len + 1 := hlt.elim (fun q => .inl (by omega)) fun q => q.2.1
        have hml : m = l → l = 0 := fun q => hlt.elim (fun q' => by omega) fun q => q.1
        cases a with
        | none => simp at hx
        | some a =>
          simp only [Option.map_some, Option.some.injEq] at hx
          subst hx
          obtain ⟨y, rfl, ha, ho⟩ := hs.addr hkn a rfl
          have hif : (if m = l then some y else (some y).map (·.add (l * size))) = some (y.add (l * size)) := by
            split
            · rename_i q
              have := hml q
              subst this
              obtain ⟨_, _, _, rfl⟩ := ha
              rw [Nat.zero_mul, addr_add]; rfl
            · rfl
          rw [hif]
          refine ⟨_, rfl, ha.add _, fun q hq hown => ?_⟩
          have hb : (a.add (l * size)).block = a.block := by unfold Addr.add; split <;> rfl
          rw [hb] at hq
          obtain ⟨e', N, s, g1, g2, g3⟩ := ho q hq hown
          have hel := h7
          have hob := hR.obj _ _ hq
          unfold elemOk at hel
          simp only [] at hel
          split at hel
          · rename_i c0 e0 own0 hg
            rw [hg] at hob
            obtain ⟨o1, cc0, ce0, fr0, o2, _, o3⟩ := hob
            subst o1
            rw [hown] at hel o3
            simp only [Bool.not_true, Bool.false_or, beq_iff_eq] at hel
            obtain ⟨rfl, o4, _⟩ := o3 rfl
            subst hel
            have g1' : w.shape? q.b = some (ce0, cc0.size) := by simp [World.shape?, o2]
            rw [g1'] at g1
            obtain ⟨rfl, rfl⟩ : ce0 = e' ∧ cc0.size = N := by simpa using g1
            rw [hsz] at g2
            injection g2 with g2
            subst g2
            refine ⟨_, _, size, g1', hsz, ?_⟩
            have hoff : (a.add (l * size)).off = a.off + l * size := by
              unfold Addr.add; split <;> simp_all
            rw [hoff]
            have : (m - l) * size + l * size = m * size := by rw [← Nat.add_mul]; congr 1; omega
            have : m * size ≤ cc * size := Nat.mul_le_mul_right _ h4
            omega
          · cases hel
    split at h
    · cases cmx <;> first | exact hmx.elim | skip
      obtain ⟨hh, hh1, h⟩ := Option.bind_eq_some_iff.1 h
      obtain ⟨l, hl1, h⟩ := Option.bind_eq_some_iff.1 h
      split at h
      case isFalse => cases h
      rename_i hel
      injection h with h
      subst h
      have hle := hs.le
      have e1 : (match chi with
          | some v => Instr.sliceBound v cc .sliceAcap
          | none => pure len : Sem Nat).run P w = .ok hh w ∧ hh ≤ len := by
        cases chi <;> cases hi <;> first | exact hhi.elim | skip
        · simp [abound] at hh1; subst hh1; exact ⟨rfl, Nat.le_refl _⟩
        · exact sliceBound_run hhi hh1 hle _ w
      have e2 : (match clo with
          | some v => Instr.sliceBound v hh .sliceB
          | none => pure 0 : Sem Nat).run P w = .ok l w ∧ l ≤ hh := by
        cases clo <;> cases lo <;> first | exact hlo.elim | skip
        · simp [abound] at hl1; subst hl1; exact ⟨rfl, Nat.zero_le _⟩
        · exact sliceBound_run hlo hl1 (Nat.le_refl _) _ w
      refine ⟨_, ?_, key l hh cc _ e2.2 e1.2 (by omega) (Nat.le_refl _) ?_ ?_ (by simpa using hel)⟩
      · have e1 := e1.1; have e2 := e2.1
        cases chi <;> cases clo <;> simp_all [Instr.slice, run_underlying' hu, Instr.sliceBounds]
      · split
        · rename_i q; intro _; have := hs.full q.1; omega
        · split <;> omega
      · intro q
        split at q
        · by_cases hz : l < hh
          · exact .inl hz
          · omega
        · split at q
          · omega
          · rename_i hz
            by_cases hlt : l < hh
            · exact .inl hlt
            · exact .inr (Classical.not_not.1 fun hc => hz ⟨by omega, hc⟩)
    · rename_i vm
      cases cmx <;> first | exact hmx.elim | skip
      rename_i cvm
      obtain ⟨m, hm1, h⟩ := Option.bind_eq_some_iff.1 h
      split at h
      · cases h
      · rename_i hn
        obtain ⟨hh, hh1, h⟩ := Option.bind_eq_some_iff.1 h
        obtain ⟨l, hl1, h⟩ := Option.bind_eq_some_iff.1 h
        split at h
        case isFalse => cases h
        rename_i hel
        injection h with h
        subst h
        have hle := hs.le
        have e0 : (Instr.sliceBound cvm cc .slice3Acap).run P w = .ok m w ∧ m ≤ len := sliceBound_run hmx hm1 hle _ w
        cases hi <;> simp at hn
        cases chi <;> first | exact hhi.elim | skip
        have e1 := sliceBound_run hhi hh1 (Nat.le_refl _) .slice3B w
        have e2 : (match clo with
            | some v => Instr.sliceBound v hh .slice3C
            | none => pure 0 : Sem Nat).run P w = .ok l w ∧ l ≤ hh := by
          cases clo <;> cases lo <;> first | exact hlo.elim | skip
          · simp [abound] at hl1; subst hl1; exact ⟨rfl, Nat.zero_le _⟩
          · exact sliceBound_run hlo hl1 (Nat.le_refl _) _ w
        refine ⟨_, ?_, key l hh m _ e2.2 (by omega) e1.2 (by omega) ?_ ?_ (by simpa using hel)⟩
        · have e0 := e0.1; have e1 := e1.1; have e2 := e2.1
          cases clo <;> simp_all [Instr.slice, run_underlying' hu, Instr.sliceBounds]
        · split <;> omega
        · split <;> omega
  · cases h

end Go.Ab
