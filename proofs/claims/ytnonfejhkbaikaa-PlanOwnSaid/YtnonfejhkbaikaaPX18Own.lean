/- PlanOwn joined to its row. -/
import Derived.Test.YtnonfejhkbaikaaPAW
import Derived.Test.YtnonfejhkbaikaaPR0
import Derived.Test.YtnonfejhkbaikaaPR1
import Derived.Test.YtnonfejhkbaikaaPY18o
namespace Go.Proofs.Ytnonfejhkbaikaa.planOwn
open Go.Ab Go.G Go.RowKit Go.ChangeShapes Go.WideShapes Go.ChangeAt
set_option linter.unusedVariables false
set_option maxRecDepth 100000
theorem HV (H : Type) (enc : TypeId × Value → H) (W : World) (base : Nat) (args : Array Value) (ds gs : List (DataW H)) (before : List MemPlace)
    (hval : ∀ (j : Nat) t v, Try.f7.params[j]? = some t → args[j]? = some v → Value.okWide Try.prog W .any base t v)
    (hW : DataW.Whole enc Try.prog Try.f7.params.toList Rows.planOwnSpec.vars false W args.toList ds gs before) :
    Calls Try.prog 7 args W fun e W' => ∃ v, e = .returned v ∧ Rows.planOwnSpec.post enc Try.prog Try.f7 false true false false W args v W' := by
 have hW' := hW
 obtain ⟨p, q, hA0, hV, rfl, hfz, hnd⟩ := hW
 have hA : DataW.TrodAll enc Try.prog W 0 (fun _ => true) true [Ty.j, Ty.b, Ty.b] args.toList ds p := hA0
 obtain ⟨v0, vs0, d0, ds0, p0, q0, hargs, rfl, rfl, h0, r0⟩ := trodAll_cons hA
 obtain ⟨v1, vs1, d1, ds1, p1, q1, rfl, rfl, rfl, h1, r1⟩ := trodAll_cons r0
 obtain ⟨v2, vs2, d2, ds2, p2, q2, rfl, rfl, rfl, h2, r2⟩ := trodAll_cons r1
 obtain ⟨rfl, rfl, rfl⟩ := trodAll_nil r2
 obtain rfl : args = #[v0, v1, v2] := by apply Array.toList_inj.1; simpa using hargs
 obtain ⟨rfl, rfl⟩ := trodVars_none hV
 have g0 : Value.okWide Try.prog W .any base Ty.j v0 := hval 0 _ v0 rfl rfl
 have g1 : Value.okWide Try.prog W .any base Ty.b v1 := hval 1 _ v1 rfl rfl
 have g2 : Value.okWide Try.prog W .any base Ty.b v2 := hval 2 _ v2 rfl rfl
 obtain ⟨n1, rfl, rfl, rfl, wn1⟩ := open_int U.c g1 h1
 obtain ⟨n2, rfl, rfl, rfl, wn2⟩ := open_int U.c g2 h2
 obtain ⟨μ0, M0, a0, l0, L0, m0, u0, e0, b0, s0⟩ := Jk (Lay.start W) g0 h0
 have hn1 : -9223372036854775808 ≤ n1 ∧ n1 ≤ 9223372036854775807 := by simpa [Lit.wf, IntKind.min, IntKind.max, IntKind.signed, IntKind.bits] using wn1
 have hn2 : -9223372036854775808 ≤ n2 ∧ n2 ≤ 9223372036854775807 := by simpa [Lit.wf, IntKind.min, IntKind.max, IntKind.signed, IntKind.bits] using wn2
 have run := Es (M := M0) (r := n1) (s := n2) (b0)
 have hargs2 : LRel (VRel Try.prog μ0 W.shape?) (#[v0, .int .i64 n1, .int .i64 n2] : Array Value).toList (#[a0, .int .i64 n1, .int .i64 n2] : Array Value).toList :=
  LRel.cons (e0) (LRel.cons (VRel.of_B ⟨rfl, rfl⟩) (LRel.cons (VRel.of_B ⟨rfl, rfl⟩) (LRel.nil _)))
 refine (HT run L0 hargs2).mono fun e W' ⟨he, hB⟩ => ?_
 exact ⟨_, he, G8 (tb := 4) H4 rfl (by kernel_rfl) (by kernel_rfl) rfl rfl hW' hB⟩
theorem Kx (os : Os) (started : os.Started) (H : Type) (enc : TypeId × Value → H) :
    ReturnsInHanded {} Try.checked os 7 .any (Rows.planOwnSpec.pre6 enc Try.prog Try.f7 Rows.planOwnRow.domain false) (Rows.planOwnSpec.post enc Try.prog Try.f7 false true false false) := by
 refine returnsInHanded_of_change (C := Try.checked) Id0 started (by kernel_rfl) Try.func7
  (ChangeSpec.witness6 (enc := enc) (C := Try.checked) false ⟨#[], #[.slice none 0 0, .int .i64 0, .int .i64 0], []⟩ 8 (by kernel_rfl) (by kernel_rfl) (by kernel_rfl) (by kernel_rfl)) ?_
 intro W base args ds gs before hval hW _ _
 exact HV H enc W base args ds gs before hval hW
theorem LO : Rows.planOwnRow.holds Try.pinned (OpenSpec.ofChange Rows.planOwnSpec) :=
 OpenClaim.holds_of_wide 7 Try.f7 rfl rfl rfl rfl rfl rfl rfl ⟨rfl, rfl, rfl, rfl, rfl⟩ rfl rfl rfl rfl rfl (by kernel_rfl) Try.func7 (by kernel_rfl)
  (of_decide_eq_true (by kernel_rfl)) (by unfold Func.isWrapper; first | (rw [if_pos (by decide +kernel)]; kernel_rfl) | (rw [if_neg (by decide +kernel)]; exact ⟨rfl, rfl⟩))
  (fun os started H enc _ => Kx os started H enc)
theorem proved : Rows.PlanOwnSaid :=
 LO
end Go.Proofs.Ytnonfejhkbaikaa.planOwn
