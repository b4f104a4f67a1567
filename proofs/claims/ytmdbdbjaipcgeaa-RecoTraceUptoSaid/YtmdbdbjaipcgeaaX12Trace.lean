/- RecoTrace: traces are of what is whole, and can be written on, for every input of bulk at most 1048576: the statement itself. -/
import Derived.Test.YtmdbdbjaipcgeaaR1
import Derived.Test.YtmdbdbjaipcgeaaU12b
namespace Go.Proofs.Ytmdbdbjaipcgeaa.recoTrace
open Go.Ab Go.G Go.RowKit Go.ChangeShapes Go.WideShapes Go.ChangeAt
set_option linter.unusedVariables false
set_option maxRecDepth 100000

theorem contract (H : Type) (enc : TypeId × Value → H) (W : World) (base : Nat) (args : Array Value) (ds gs : List (DataW H)) (before : List MemPlace)
    (hval : ∀ (j : Nat) t v, Try.f17.params[j]? = some t → args[j]? = some v → Value.okWide Try.prog W .any base t v)
    (hW : DataW.Whole enc Try.prog Try.f17.params.toList Rows.recoTraceSpec.vars false W args.toList ds gs before) (hk : Rows.uptoSmall H (ds ++ gs) = true) :
    Calls Try.prog 17 args W fun e W' => ∃ v, e = .returned v ∧ Rows.recoTraceSpec.post enc Try.prog Try.f17 false true false false W args v W' := by
  have hW' := hW
  obtain ⟨p, q, hA0, hV, rfl, hfz, hnd⟩ := hW
  have hA : DataW.TrodAll enc Try.prog W 0 (fun _ => true) true [Ty.sl_int, Ty.int, Ty.sl_int] args.toList ds p := hA0
  obtain ⟨v0, vs0, d0, ds0, p0, q0, hargs, rfl, rfl, h0, r0⟩ := trodAll_cons hA
  obtain ⟨v1, vs1, d1, ds1, p1, q1, rfl, rfl, rfl, h1, r1⟩ := trodAll_cons r0
  obtain ⟨v2, vs2, d2, ds2, p2, q2, rfl, rfl, rfl, h2, r2⟩ := trodAll_cons r1
  obtain ⟨rfl, rfl, rfl⟩ := trodAll_nil r2
  obtain rfl : args = #[v0, v1, v2] := by apply Array.toList_inj.1; simpa using hargs
  obtain ⟨rfl, rfl⟩ := trodVars_none hV
  have g0 : Value.okWide Try.prog W .any base Ty.sl_int v0 := hval 0 _ v0 rfl rfl
  have g1 : Value.okWide Try.prog W .any base Ty.int v1 := hval 1 _ v1 rfl rfl
  have g2 : Value.okWide Try.prog W .any base Ty.sl_int v2 := hval 2 _ v2 rfl rfl
  obtain ⟨n1, rfl, rfl, rfl, wn1⟩ := open_int U.int g1 h1
  obtain ⟨μ0, M0, a0, l0, L0, m0, u0, e0, b0, s0⟩ := in_ints (Lay.start W) g0 h0
  obtain ⟨μ2, M2, a2, l2, L2, m2, u2, e2, b2, s2⟩ := in_ints L0 g2 h2
  have hn1 : -9223372036854775808 ≤ n1 ∧ n1 ≤ 9223372036854775807 := by simpa [Lit.wf, IntKind.min, IntKind.max, IntKind.signed, IntKind.bits] using wn1
  have hbulk : Rows.uptoBulkAll ([d0, .lit (.int .i64 n1), d2] ++ []) ≤ 1048576 := of_decide_eq_true hk
  simp only [List.append_nil, Rows.uptoBulkAll] at hbulk
  have run := RecoTrace_ok (M := M2) (Sl.up b0 u2) (b2) hn1 (by omega) (by omega)
  have hargs2 : LRel (VRel Try.prog μ2 W.shape?) (#[v0, .int .i64 n1, v2] : Array Value).toList (#[a0, .int .i64 n1, a2] : Array Value).toList :=
    LRel.cons (e0.mono m2 (.refl _)) (LRel.cons (VRel.of_B ⟨rfl, rfl⟩) (LRel.cons (e2) (LRel.nil _)))
  refine (calls_of run L2 hargs2).mono fun e W' ⟨he, hB⟩ => ?_
  exact ⟨_, he, post_true (tb := 4) laid_out rfl (by kernel_rfl) (by kernel_rfl) rfl rfl hW' hB⟩

theorem lifted (os : Os) (started : os.Started) (H : Type) (enc : TypeId × Value → H) (F : Stop.Interp) :
    ReturnsInHanded {} Try.checked os 17 .any ((Rows.OpenSpec.upto Rows.recoTraceSpec).pre6 enc Try.prog Try.f17 Rows.recoTraceUptoRow.domain false) (((Rows.OpenSpec.upto Rows.recoTraceSpec).at F).post enc Try.prog Try.f17 false true false false) := by
  refine returnsInHanded_of_cond (C := Try.checked) (s := Rows.OpenSpec.upto Rows.recoTraceSpec) (k := Rows.uptoSmall) rfl own_knob started (by kernel_rfl) Try.func17
    (OpenSpec.witness (enc := enc) (C := Try.checked) (s := Rows.OpenSpec.upto Rows.recoTraceSpec) (k := Rows.uptoSmall) rfl false ⟨#[], #[.slice none 0 0, .int .i64 0, .slice none 0 0], []⟩ 8 (by kernel_rfl) (by kernel_rfl) (by kernel_rfl)
      (x := ([.nil, .lit (.int .i64 0), .nil], [], [])) (by kernel_rfl) rfl (by kernel_rfl)) ?_
  intro W base args ds gs before hval hW _ hk _
  exact contract H enc W base args ds gs before hval hW hk

theorem over : Rows.recoTraceUptoRow.holds Try.pinned (Rows.OpenSpec.upto Rows.recoTraceSpec) :=
  OpenClaim.holds_of_cond 17 Try.f17 rfl rfl rfl rfl rfl rfl rfl ⟨rfl, rfl, rfl, rfl, rfl⟩ rfl rfl rfl rfl rfl (by kernel_rfl) Try.func17 (by kernel_rfl)
    (of_decide_eq_true (by kernel_rfl)) (by unfold Func.isWrapper; first | (rw [if_pos (by decide +kernel)]; kernel_rfl) | (rw [if_neg (by decide +kernel)]; exact ⟨rfl, rfl⟩))
    (fun os started H enc _ F => lifted os started H enc F)

theorem proved : Rows.RecoTraceUptoSaid :=
  over
end Go.Proofs.Ytmdbdbjaipcgeaa.recoTrace
