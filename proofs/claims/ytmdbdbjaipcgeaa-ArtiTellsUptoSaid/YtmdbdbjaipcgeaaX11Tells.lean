/- ArtiTells: artifacts are made and opened as the document says, in whatever bytes, for every input of bulk at most 1048576: the statement itself. -/
import Derived.Test.YtmdbdbjaipcgeaaR0
import Derived.Test.YtmdbdbjaipcgeaaL11
namespace Go.Proofs.Ytmdbdbjaipcgeaa.artiTells
open Go.Ab Go.G Go.RowKit Go.ChangeShapes Go.WideShapes Go.ChangeAt
set_option linter.unusedVariables false
set_option maxRecDepth 100000

theorem contract (H : Type) (enc : TypeId × Value → H) (W : World) (base : Nat) (args : Array Value) (ds gs : List (DataW H)) (before : List MemPlace)
    (hval : ∀ (j : Nat) t v, Try.f6.params[j]? = some t → args[j]? = some v → Value.okWide Try.prog W .any base t v)
    (hW : DataW.Whole enc Try.prog Try.f6.params.toList Rows.artiTellsSpec.vars false W args.toList ds gs before) (hk : Rows.uptoSmall H (ds ++ gs) = true) :
    Calls Try.prog 6 args W fun e W' => ∃ v, e = .returned v ∧ Rows.artiTellsSpec.post enc Try.prog Try.f6 false true false false W args v W' := by
  have hW' := hW
  obtain ⟨p, q, hA0, hV, rfl, hfz, hnd⟩ := hW
  have hA : DataW.TrodAll enc Try.prog W 0 (fun _ => true) true [Ty.sl_uint8, Ty.sl_uint8, Ty.sl_uint8, Ty.int, Ty.uint8] args.toList ds p := hA0
  obtain ⟨v0, vs0, d0, ds0, p0, q0, hargs, rfl, rfl, h0, r0⟩ := trodAll_cons hA
  obtain ⟨v1, vs1, d1, ds1, p1, q1, rfl, rfl, rfl, h1, r1⟩ := trodAll_cons r0
  obtain ⟨v2, vs2, d2, ds2, p2, q2, rfl, rfl, rfl, h2, r2⟩ := trodAll_cons r1
  obtain ⟨v3, vs3, d3, ds3, p3, q3, rfl, rfl, rfl, h3, r3⟩ := trodAll_cons r2
  obtain ⟨v4, vs4, d4, ds4, p4, q4, rfl, rfl, rfl, h4, r4⟩ := trodAll_cons r3
  obtain ⟨rfl, rfl, rfl⟩ := trodAll_nil r4
  obtain rfl : args = #[v0, v1, v2, v3, v4] := by apply Array.toList_inj.1; simpa using hargs
  obtain ⟨rfl, rfl⟩ := trodVars_none hV
  have g0 : Value.okWide Try.prog W .any base Ty.sl_uint8 v0 := hval 0 _ v0 rfl rfl
  have g1 : Value.okWide Try.prog W .any base Ty.sl_uint8 v1 := hval 1 _ v1 rfl rfl
  have g2 : Value.okWide Try.prog W .any base Ty.sl_uint8 v2 := hval 2 _ v2 rfl rfl
  have g3 : Value.okWide Try.prog W .any base Ty.int v3 := hval 3 _ v3 rfl rfl
  have g4 : Value.okWide Try.prog W .any base Ty.uint8 v4 := hval 4 _ v4 rfl rfl
  obtain ⟨n3, rfl, rfl, rfl, wn3⟩ := open_int U.int g3 h3
  obtain ⟨n4, rfl, rfl, rfl, wn4⟩ := open_int U.uint8 g4 h4
  obtain ⟨μ0, M0, a0, l0, L0, m0, u0, e0, b0, s0⟩ := in_bytes (Lay.start W) g0 h0
  obtain ⟨μ1, M1, a1, l1, L1, m1, u1, e1, b1, s1⟩ := in_bytes L0 g1 h1
  obtain ⟨μ2, M2, a2, l2, L2, m2, u2, e2, b2, s2⟩ := in_bytes L1 g2 h2
  have hn3 : -9223372036854775808 ≤ n3 ∧ n3 ≤ 9223372036854775807 := by simpa [Lit.wf, IntKind.min, IntKind.max, IntKind.signed, IntKind.bits] using wn3
  have hn4 : 0 ≤ n4 ∧ n4 ≤ 255 := by simpa [Lit.wf, IntKind.min, IntKind.max, IntKind.signed, IntKind.bits] using wn4
  have hbulk : Rows.uptoBulkAll ([d0, d1, d2, .lit (.int .i64 n3), .lit (.int .u8 n4)] ++ []) ≤ 1048576 := of_decide_eq_true hk
  simp only [List.append_nil, Rows.uptoBulkAll] at hbulk
  have hyv4 : (Value.int .u8 n4) = bv (UInt8.ofNat n4.toNat) := by
    simp only [bv, Value.int.injEq, true_and]
    rw [UInt8.toNat_ofNat']
    omega
  have run := ArtiTells_ok (M := M2) (Sl.up (Sl.up b0 u1) u2) (Sl.up b1 u2) (b2) hn3.1 hn3.2 (UInt8.ofNat n4.toNat)
  rw [← hyv4] at run
  have hargs2 : LRel (VRel Try.prog μ2 W.shape?) (#[v0, v1, v2, .int .i64 n3, .int .u8 n4] : Array Value).toList (#[a0, a1, a2, .int .i64 n3, .int .u8 n4] : Array Value).toList :=
    LRel.cons ((e0.mono m1 (.refl _)).mono m2 (.refl _)) (LRel.cons (e1.mono m2 (.refl _)) (LRel.cons (e2) (LRel.cons (VRel.of_B ⟨rfl, rfl⟩) (LRel.cons (VRel.of_B ⟨rfl, rfl⟩) (LRel.nil _)))))
  refine (calls_of run L2 hargs2).mono fun e W' ⟨he, hB⟩ => ?_
  exact ⟨_, he, post_true (tb := 4) laid_out rfl (by kernel_rfl) (by kernel_rfl) rfl rfl hW' hB⟩

theorem lifted (os : Os) (started : os.Started) (H : Type) (enc : TypeId × Value → H) (F : Stop.Interp) :
    ReturnsInHanded {} Try.checked os 6 .any ((Rows.OpenSpec.upto Rows.artiTellsSpec).pre6 enc Try.prog Try.f6 Rows.artiTellsUptoRow.domain false) (((Rows.OpenSpec.upto Rows.artiTellsSpec).at F).post enc Try.prog Try.f6 false true false false) := by
  refine returnsInHanded_of_cond (C := Try.checked) (s := Rows.OpenSpec.upto Rows.artiTellsSpec) (k := Rows.uptoSmall) rfl own_knob started (by kernel_rfl) Try.func6
    (OpenSpec.witness (enc := enc) (C := Try.checked) (s := Rows.OpenSpec.upto Rows.artiTellsSpec) (k := Rows.uptoSmall) rfl false ⟨#[], #[.slice none 0 0, .slice none 0 0, .slice none 0 0, .int .i64 0, .int .u8 0], []⟩ 8 (by kernel_rfl) (by kernel_rfl) (by kernel_rfl)
      (x := ([.nil, .nil, .nil, .lit (.int .i64 0), .lit (.int .u8 0)], [], [])) (by kernel_rfl) rfl (by kernel_rfl)) ?_
  intro W base args ds gs before hval hW _ hk _
  exact contract H enc W base args ds gs before hval hW hk

theorem over : Rows.artiTellsUptoRow.holds Try.pinned (Rows.OpenSpec.upto Rows.artiTellsSpec) :=
  OpenClaim.holds_of_cond 6 Try.f6 rfl rfl rfl rfl rfl rfl rfl ⟨rfl, rfl, rfl, rfl, rfl⟩ rfl rfl rfl rfl rfl (by kernel_rfl) Try.func6 (by kernel_rfl)
    (of_decide_eq_true (by kernel_rfl)) (by unfold Func.isWrapper; first | (rw [if_pos (by decide +kernel)]; kernel_rfl) | (rw [if_neg (by decide +kernel)]; exact ⟨rfl, rfl⟩))
    (fun os started H enc _ F => lifted os started H enc F)

theorem proved : Rows.ArtiTellsUptoSaid :=
  over
end Go.Proofs.Ytmdbdbjaipcgeaa.artiTells
