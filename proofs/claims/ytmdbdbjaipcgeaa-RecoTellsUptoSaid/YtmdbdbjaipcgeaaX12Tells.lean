/- RecoTells: locks, commits and traces are told as the document says, for every input of bulk at most 1048576: the statement itself. -/
import Derived.Test.YtmdbdbjaipcgeaaR2
import Derived.Test.YtmdbdbjaipcgeaaU12b
namespace Go.Proofs.Ytmdbdbjaipcgeaa.recoTells
open Go.Ab Go.G Go.RowKit Go.ChangeShapes Go.WideShapes Go.ChangeAt
set_option linter.unusedVariables false
set_option maxRecDepth 100000

theorem contract (H : Type) (enc : TypeId × Value → H) (W : World) (base : Nat) (args : Array Value) (ds gs : List (DataW H)) (before : List MemPlace)
    (hval : ∀ (j : Nat) t v, Try.f16.params[j]? = some t → args[j]? = some v → Value.okWide Try.prog W .any base t v)
    (hW : DataW.Whole enc Try.prog Try.f16.params.toList Rows.recoTellsSpec.vars false W args.toList ds gs before) (hk : Rows.uptoSmall H (ds ++ gs) = true) :
    Calls Try.prog 16 args W fun e W' => ∃ v, e = .returned v ∧ Rows.recoTellsSpec.post enc Try.prog Try.f16 false true false false W args v W' := by
  have hW' := hW
  obtain ⟨p, q, hA0, hV, rfl, hfz, hnd⟩ := hW
  have hA : DataW.TrodAll enc Try.prog W 0 (fun _ => true) true [Ty.api_Lock, Ty.api_Done, Ty.sl_int, Ty.sl_uint8, Ty.int, Ty.uint8] args.toList ds p := hA0
  obtain ⟨v0, vs0, d0, ds0, p0, q0, hargs, rfl, rfl, h0, r0⟩ := trodAll_cons hA
  obtain ⟨v1, vs1, d1, ds1, p1, q1, rfl, rfl, rfl, h1, r1⟩ := trodAll_cons r0
  obtain ⟨v2, vs2, d2, ds2, p2, q2, rfl, rfl, rfl, h2, r2⟩ := trodAll_cons r1
  obtain ⟨v3, vs3, d3, ds3, p3, q3, rfl, rfl, rfl, h3, r3⟩ := trodAll_cons r2
  obtain ⟨v4, vs4, d4, ds4, p4, q4, rfl, rfl, rfl, h4, r4⟩ := trodAll_cons r3
  obtain ⟨v5, vs5, d5, ds5, p5, q5, rfl, rfl, rfl, h5, r5⟩ := trodAll_cons r4
  obtain ⟨rfl, rfl, rfl⟩ := trodAll_nil r5
  obtain rfl : args = #[v0, v1, v2, v3, v4, v5] := by apply Array.toList_inj.1; simpa using hargs
  obtain ⟨rfl, rfl⟩ := trodVars_none hV
  have g0 : Value.okWide Try.prog W .any base Ty.api_Lock v0 := hval 0 _ v0 rfl rfl
  have g1 : Value.okWide Try.prog W .any base Ty.api_Done v1 := hval 1 _ v1 rfl rfl
  have g2 : Value.okWide Try.prog W .any base Ty.sl_int v2 := hval 2 _ v2 rfl rfl
  have g3 : Value.okWide Try.prog W .any base Ty.sl_uint8 v3 := hval 3 _ v3 rfl rfl
  have g4 : Value.okWide Try.prog W .any base Ty.int v4 := hval 4 _ v4 rfl rfl
  have g5 : Value.okWide Try.prog W .any base Ty.uint8 v5 := hval 5 _ v5 rfl rfl
  obtain ⟨a0, b0, c0, z0, rfl, _⟩ := in_lock (μ := fun _ => none) g0 h0
  obtain ⟨n4, rfl, rfl, rfl, wn4⟩ := open_int U.int g4 h4
  obtain ⟨n5, rfl, rfl, rfl, wn5⟩ := open_int U.uint8 g5 h5
  obtain ⟨μ1, M1, a1, l1, L1, m1, u1, e1, b1, s1⟩ := in_done (Lay.start W) g1 h1
  obtain ⟨μ2, M2, a2, l2, L2, m2, u2, e2, b2, s2⟩ := in_ints L1 g2 h2
  obtain ⟨μ3, M3, a3, l3, L3, m3, u3, e3, b3, s3⟩ := in_bytes L2 g3 h3
  have hn4 : -9223372036854775808 ≤ n4 ∧ n4 ≤ 9223372036854775807 := by simpa [Lit.wf, IntKind.min, IntKind.max, IntKind.signed, IntKind.bits] using wn4
  have hn5 : 0 ≤ n5 ∧ n5 ≤ 255 := by simpa [Lit.wf, IntKind.min, IntKind.max, IntKind.signed, IntKind.bits] using wn5
  have hbulk : Rows.uptoBulkAll ([d0, d1, d2, d3, .lit (.int .i64 n4), .lit (.int .u8 n5)] ++ []) ≤ 1048576 := of_decide_eq_true hk
  simp only [List.append_nil, Rows.uptoBulkAll] at hbulk
  have hyv5 : (Value.int .u8 n5) = bv (UInt8.ofNat n5.toNat) := by
    simp only [bv, Value.int.injEq, true_and]
    rw [UInt8.toNat_ofNat']
    omega
  have run := RecoTells_ok (a := a0) (b := b0) (c := c0) (d := z0) (M := M3) (Dn.up (Dn.up b1 u2) u3) (by omega) (Sl.up b2 u3) (b3) hn4.1 hn4.2 (UInt8.ofNat n5.toNat) (by omega)
  rw [← hyv5] at run
  have hargs2 : LRel (VRel Try.prog μ3 W.shape?) (#[lkv a0 b0 c0 z0, v1, v2, v3, .int .i64 n4, .int .u8 n5] : Array Value).toList (#[lkv a0 b0 c0 z0, a1, a2, a3, .int .i64 n4, .int .u8 n5] : Array Value).toList :=
    LRel.cons (lkv_rel _ _ _ _) (LRel.cons ((e1.mono m2 (.refl _)).mono m3 (.refl _)) (LRel.cons (e2.mono m3 (.refl _)) (LRel.cons (e3) (LRel.cons (VRel.of_B ⟨rfl, rfl⟩) (LRel.cons (VRel.of_B ⟨rfl, rfl⟩) (LRel.nil _))))))
  refine (calls_of run L3 hargs2).mono fun e W' ⟨he, hB⟩ => ?_
  exact ⟨_, he, post_true (tb := 4) laid_out rfl (by kernel_rfl) (by kernel_rfl) rfl rfl hW' hB⟩

theorem lifted (os : Os) (started : os.Started) (H : Type) (enc : TypeId × Value → H) (F : Stop.Interp) :
    ReturnsInHanded {} Try.checked os 16 .any ((Rows.OpenSpec.upto Rows.recoTellsSpec).pre6 enc Try.prog Try.f16 Rows.recoTellsUptoRow.domain false) (((Rows.OpenSpec.upto Rows.recoTellsSpec).at F).post enc Try.prog Try.f16 false true false false) := by
  refine returnsInHanded_of_cond (C := Try.checked) (s := Rows.OpenSpec.upto Rows.recoTellsSpec) (k := Rows.uptoSmall) rfl own_knob started (by kernel_rfl) Try.func16
    (OpenSpec.witness (enc := enc) (C := Try.checked) (s := Rows.OpenSpec.upto Rows.recoTellsSpec) (k := Rows.uptoSmall) rfl false ⟨#[], #[.agg #[.int .i64 0, .int .i64 0, .int .i64 0, .int .i64 0], .agg #[.string .empty, .int .i64 0, .int .i64 0, .slice none 0 0], .slice none 0 0, .slice none 0 0, .int .i64 0, .int .u8 0], []⟩ 8 (by kernel_rfl) (by kernel_rfl) (by kernel_rfl)
      (x := ([.agg [.lit (.int .i64 0), .lit (.int .i64 0), .lit (.int .i64 0), .lit (.int .i64 0)], .agg [.lit (.string []), .lit (.int .i64 0), .lit (.int .i64 0), .nil], .nil, .nil, .lit (.int .i64 0), .lit (.int .u8 0)], [], [])) (by kernel_rfl) rfl (by kernel_rfl)) ?_
  intro W base args ds gs before hval hW _ hk _
  exact contract H enc W base args ds gs before hval hW hk

theorem over : Rows.recoTellsUptoRow.holds Try.pinned (Rows.OpenSpec.upto Rows.recoTellsSpec) :=
  OpenClaim.holds_of_cond 16 Try.f16 rfl rfl rfl rfl rfl rfl rfl ⟨rfl, rfl, rfl, rfl, rfl⟩ rfl rfl rfl rfl rfl (by kernel_rfl) Try.func16 (by kernel_rfl)
    (of_decide_eq_true (by kernel_rfl)) (by unfold Func.isWrapper; first | (rw [if_pos (by decide +kernel)]; kernel_rfl) | (rw [if_neg (by decide +kernel)]; exact ⟨rfl, rfl⟩))
    (fun os started H enc _ F => lifted os started H enc F)

theorem proved : Rows.RecoTellsUptoSaid :=
  over
end Go.Proofs.Ytmdbdbjaipcgeaa.recoTells
