/- PrntTells joined to its row. -/
import Derived.Test.YtpacolplhcfamaaPR0
import Derived.Test.YtpacolplhcfamaaPR1
import Derived.Test.YtpacolplhcfamaaPR3
import Derived.Test.YtpacolplhcfamaaPY10f
namespace Go.Proofs.Ytpacolplhcfamaa.prntTells
open Go.Ab Go.G Go.RowKit Go.ChangeShapes Go.WideShapes Go.ChangeAt
set_option linter.unusedVariables false
set_option maxRecDepth 100000

theorem contract (H : Type) (enc : TypeId × Value → H) (W : World) (base : Nat) (args : Array Value) (ds gs : List (DataW H)) (before : List MemPlace)
    (hval : ∀ (j : Nat) t v, Try.f5.params[j]? = some t → args[j]? = some v → Value.okWide Try.prog W .any base t v)
    (hW : DataW.Whole enc Try.prog Try.f5.params.toList Rows.prntTellsSpec.vars false W args.toList ds gs before) :
    Calls Try.prog 5 args W fun e W' => ∃ v, e = .returned v ∧ Rows.prntTellsSpec.post enc Try.prog Try.f5 false true false false W args v W' := by
  have hW' := hW
  obtain ⟨p, q, hA0, hV, rfl, hfz, hnd⟩ := hW
  have hA : DataW.TrodAll enc Try.prog W 0 (fun _ => true) true [Ty.sl_api_Do, Ty.sl_int, Ty.sl_sl_uint8, Ty.sl_uint8, Ty.int, Ty.uint8] args.toList ds p := hA0
  obtain ⟨v0, vs0, d0, ds0, p0, q0, hargs, rfl, rfl, h0, r0⟩ := trodAll_cons hA
  obtain ⟨v1, vs1, d1, ds1, p1, q1, rfl, rfl, rfl, h1, r1⟩ := trodAll_cons r0
  obtain ⟨v2, vs2, d2, ds2, p2, q2, rfl, rfl, rfl, h2, r2⟩ := trodAll_cons r1
  obtain ⟨v3, vs3, d3, ds3, p3, q3, rfl, rfl, rfl, h3, r3⟩ := trodAll_cons r2
  obtain ⟨v4, vs4, d4, ds4, p4, q4, rfl, rfl, rfl, h4, r4⟩ := trodAll_cons r3
  obtain ⟨v5, vs5, d5, ds5, p5, q5, rfl, rfl, rfl, h5, r5⟩ := trodAll_cons r4
  obtain ⟨rfl, rfl, rfl⟩ := trodAll_nil r5
  obtain rfl : args = #[v0, v1, v2, v3, v4, v5] := by apply Array.toList_inj.1; simpa using hargs
  obtain ⟨rfl, rfl⟩ := trodVars_none hV
  have g0 : Value.okWide Try.prog W .any base Ty.sl_api_Do v0 := hval 0 _ v0 rfl rfl
  have g1 : Value.okWide Try.prog W .any base Ty.sl_int v1 := hval 1 _ v1 rfl rfl
  have g2 : Value.okWide Try.prog W .any base Ty.sl_sl_uint8 v2 := hval 2 _ v2 rfl rfl
  have g3 : Value.okWide Try.prog W .any base Ty.sl_uint8 v3 := hval 3 _ v3 rfl rfl
  have g4 : Value.okWide Try.prog W .any base Ty.int v4 := hval 4 _ v4 rfl rfl
  have g5 : Value.okWide Try.prog W .any base Ty.uint8 v5 := hval 5 _ v5 rfl rfl
  obtain ⟨n4, rfl, rfl, rfl, wn4⟩ := open_int U.int g4 h4
  obtain ⟨n5, rfl, rfl, rfl, wn5⟩ := open_int U.uint8 g5 h5
  obtain ⟨μ0, M0, a0, l0, L0, m0, u0, e0, b0, s0⟩ := in_dos (Lay.start W) g0 h0
  obtain ⟨μ1, M1, a1, l1, L1, m1, u1, e1, b1, s1⟩ := in_ints L0 g1 h1
  obtain ⟨μ2, M2, a2, l2, L2, m2, u2, e2, b2, s2⟩ := in_rows L1 g2 h2
  obtain ⟨μ3, M3, a3, l3, L3, m3, u3, e3, b3, s3⟩ := in_bytes L2 g3 h3
  have hn4 : -9223372036854775808 ≤ n4 ∧ n4 ≤ 9223372036854775807 := by simpa [Lit.wf, IntKind.min, IntKind.max, IntKind.signed, IntKind.bits] using wn4
  have hn5 : 0 ≤ n5 ∧ n5 ≤ 255 := by simpa [Lit.wf, IntKind.min, IntKind.max, IntKind.signed, IntKind.bits] using wn5
  have hyv5 : (Value.int .u8 n5) = bv (UInt8.ofNat n5.toNat) := by
    simp only [bv, Value.int.injEq, true_and]
    rw [UInt8.toNat_ofNat']
    omega
  have run := PrntTells_ok (M := M3) (at' := n4) (c := (UInt8.ofNat n5.toNat)) (Sl.up (Sl.up (Sl.up b0 u1) u2) u3) (Sl.up (Sl.up b1 u2) u3) (b2.up By.up' u3) (b3)
  rw [← hyv5] at run
  have hargs2 : LRel (VRel Try.prog μ3 W.shape?) (#[v0, v1, v2, v3, .int .i64 n4, .int .u8 n5] : Array Value).toList (#[a0, a1, a2, a3, .int .i64 n4, .int .u8 n5] : Array Value).toList :=
    LRel.cons (((e0.mono m1 (.refl _)).mono m2 (.refl _)).mono m3 (.refl _)) (LRel.cons ((e1.mono m2 (.refl _)).mono m3 (.refl _)) (LRel.cons (e2.mono m3 (.refl _)) (LRel.cons (e3) (LRel.cons (VRel.of_B ⟨rfl, rfl⟩) (LRel.cons (VRel.of_B ⟨rfl, rfl⟩) (LRel.nil _))))))
  refine (calls_of run L3 hargs2).mono fun e W' ⟨he, hB⟩ => ?_
  exact ⟨_, he, post_true (tb := 4) laid_out rfl (by kernel_rfl) (by kernel_rfl) rfl rfl hW' hB⟩

theorem lifted (os : Os) (started : os.Started) (H : Type) (enc : TypeId × Value → H) :
    ReturnsInHanded {} Try.checked os 5 .any (Rows.prntTellsSpec.pre6 enc Try.prog Try.f5 Rows.prntTellsRow.domain false) (Rows.prntTellsSpec.post enc Try.prog Try.f5 false true false false) := by
  refine returnsInHanded_of_change (C := Try.checked) own_knob started (by kernel_rfl) Try.func5
    (ChangeSpec.witness6 (enc := enc) (C := Try.checked) false ⟨#[], #[.slice none 0 0, .slice none 0 0, .slice none 0 0, .slice none 0 0, .int .i64 0, .int .u8 0], []⟩ 8 (by kernel_rfl) (by kernel_rfl) (by kernel_rfl) (by kernel_rfl)) ?_
  intro W base args ds gs before hval hW _ _
  exact contract H enc W base args ds gs before hval hW

theorem over : Rows.prntTellsRow.holds Try.pinned (OpenSpec.ofChange Rows.prntTellsSpec) :=
  OpenClaim.holds_of_wide 5 Try.f5 rfl rfl rfl rfl rfl rfl rfl ⟨rfl, rfl, rfl, rfl, rfl⟩ rfl rfl rfl rfl rfl (by kernel_rfl) Try.func5 (by kernel_rfl)
    (of_decide_eq_true (by kernel_rfl)) (by unfold Func.isWrapper; first | (rw [if_pos (by decide +kernel)]; kernel_rfl) | (rw [if_neg (by decide +kernel)]; exact ⟨rfl, rfl⟩))
    (fun os started H enc _ => lifted os started H enc)

theorem proved : Rows.PrntTellsSaid :=
  over
end Go.Proofs.Ytpacolplhcfamaa.prntTells
