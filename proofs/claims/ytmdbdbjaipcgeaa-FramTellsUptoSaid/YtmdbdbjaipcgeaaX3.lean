/- FramTells: bytes are framed, and frames found in any bytes, as the document says, for every input of bulk at most 1048576: the statement itself. -/
import Derived.Test.YtmdbdbjaipcgeaaR0
import Derived.Test.YtmdbdbjaipcgeaaL3b
namespace Go.Proofs.Ytmdbdbjaipcgeaa.framTells
open Go.Ab Go.G Go.RowKit Go.ChangeShapes Go.WideShapes Go.ChangeAt
set_option linter.unusedVariables false
set_option maxRecDepth 100000

theorem contract (H : Type) (enc : TypeId × Value → H) (W : World) (base : Nat) (args : Array Value) (ds gs : List (DataW H)) (before : List MemPlace)
    (hval : ∀ (j : Nat) t v, Try.f3.params[j]? = some t → args[j]? = some v → Value.okWide Try.prog W .any base t v)
    (hW : DataW.Whole enc Try.prog Try.f3.params.toList Rows.framTellsSpec.vars false W args.toList ds gs before) (hk : Rows.uptoSmall H (ds ++ gs) = true) :
    Calls Try.prog 3 args W fun e W' => ∃ v, e = .returned v ∧ Rows.framTellsSpec.post enc Try.prog Try.f3 false true false false W args v W' := by
  have hW' := hW
  obtain ⟨p, q, hA0, hV, rfl, hfz, hnd⟩ := hW
  have hA : DataW.TrodAll enc Try.prog W 0 (fun _ => true) true [Ty.sl_uint8, Ty.sl_sl_uint8, Ty.int, Ty.uint8] args.toList ds p := hA0
  obtain ⟨v0, vs0, d0, ds0, p0, q0, hargs, rfl, rfl, h0, r0⟩ := trodAll_cons hA
  obtain ⟨v1, vs1, d1, ds1, p1, q1, rfl, rfl, rfl, h1, r1⟩ := trodAll_cons r0
  obtain ⟨v2, vs2, d2, ds2, p2, q2, rfl, rfl, rfl, h2, r2⟩ := trodAll_cons r1
  obtain ⟨v3, vs3, d3, ds3, p3, q3, rfl, rfl, rfl, h3, r3⟩ := trodAll_cons r2
  obtain ⟨rfl, rfl, rfl⟩ := trodAll_nil r3
  obtain rfl : args = #[v0, v1, v2, v3] := by apply Array.toList_inj.1; simpa using hargs
  obtain ⟨rfl, rfl⟩ := trodVars_none hV
  have g0 : Value.okWide Try.prog W .any base Ty.sl_uint8 v0 := hval 0 _ v0 rfl rfl
  have g1 : Value.okWide Try.prog W .any base Ty.sl_sl_uint8 v1 := hval 1 _ v1 rfl rfl
  have g2 : Value.okWide Try.prog W .any base Ty.int v2 := hval 2 _ v2 rfl rfl
  have g3 : Value.okWide Try.prog W .any base Ty.uint8 v3 := hval 3 _ v3 rfl rfl
  obtain ⟨n, rfl, rfl, rfl, wn⟩ := open_int U.int g2 h2
  obtain ⟨y, rfl, rfl, rfl, wy⟩ := open_int U.uint8 g3 h3
  obtain ⟨μ1, M1, a0, l, L1, m1, u1, e1, b1, s1⟩ := in_bytes (Lay.start W) g0 h0
  obtain ⟨μ2, M2, a1, ll, L2, m2, u2, e2, b2, s2⟩ := in_rows L1 g1 h1
  have hn : -9223372036854775808 ≤ n ∧ n ≤ 9223372036854775807 := by simpa [Lit.wf, IntKind.min, IntKind.max, IntKind.signed, IntKind.bits] using wn
  have hy : 0 ≤ y ∧ y ≤ 255 := by simpa [Lit.wf, IntKind.min, IntKind.max, IntKind.signed, IntKind.bits] using wy
  have hbulk : Rows.uptoBulkAll ([d0, d1, .lit (.int .i64 n), .lit (.int .u8 y)] ++ []) ≤ 1048576 := of_decide_eq_true hk
  simp only [List.append_nil, Rows.uptoBulkAll] at hbulk
  have hyv : (Value.int .u8 y) = bv (UInt8.ofNat y.toNat) := by
    simp only [bv, Value.int.injEq, true_and]
    rw [UInt8.toNat_ofNat']
    omega
  have run := FramTells_ok (M := M2) (Sl.up b1 u2) b2 hn.1 hn.2 (UInt8.ofNat y.toNat) (by omega) (by omega) (by unfold total; omega)
  rw [← hyv] at run
  have hargs2 : LRel (VRel Try.prog μ2 W.shape?) (#[v0, v1, .int .i64 n, .int .u8 y] : Array Value).toList (#[a0, a1, .int .i64 n, .int .u8 y] : Array Value).toList :=
    LRel.cons (e1.mono m2 (.refl _)) (LRel.cons e2 (LRel.cons (VRel.of_B ⟨rfl, rfl⟩) (LRel.cons (VRel.of_B ⟨rfl, rfl⟩) (LRel.nil _))))
  refine (calls_of run L2 hargs2).mono fun e W' ⟨he, hB⟩ => ?_
  exact ⟨_, he, post_true (tb := 4) laid_out rfl (by kernel_rfl) (by kernel_rfl) rfl rfl hW' hB⟩

theorem lifted (os : Os) (started : os.Started) (H : Type) (enc : TypeId × Value → H) (F : Stop.Interp) :
    ReturnsInHanded {} Try.checked os 3 .any ((Rows.OpenSpec.upto Rows.framTellsSpec).pre6 enc Try.prog Try.f3 Rows.framTellsUptoRow.domain false) (((Rows.OpenSpec.upto Rows.framTellsSpec).at F).post enc Try.prog Try.f3 false true false false) := by
  refine returnsInHanded_of_cond (C := Try.checked) (s := Rows.OpenSpec.upto Rows.framTellsSpec) (k := Rows.uptoSmall) rfl own_knob started (by kernel_rfl) Try.func3
    (OpenSpec.witness (enc := enc) (C := Try.checked) (s := Rows.OpenSpec.upto Rows.framTellsSpec) (k := Rows.uptoSmall) rfl false ⟨#[], #[.slice none 0 0, .slice none 0 0, .int .i64 0, .int .u8 0], []⟩ 8 (by kernel_rfl) (by kernel_rfl) (by kernel_rfl)
      (x := ([.nil, .nil, .lit (.int .i64 0), .lit (.int .u8 0)], [], [])) (by kernel_rfl) rfl (by kernel_rfl)) ?_
  intro W base args ds gs before hval hW _ hk _
  exact contract H enc W base args ds gs before hval hW hk

theorem over : Rows.framTellsUptoRow.holds Try.pinned (Rows.OpenSpec.upto Rows.framTellsSpec) :=
  OpenClaim.holds_of_cond 3 Try.f3 rfl rfl rfl rfl rfl rfl rfl ⟨rfl, rfl, rfl, rfl, rfl⟩ rfl rfl rfl rfl rfl (by kernel_rfl) Try.func3 (by kernel_rfl)
    (of_decide_eq_true (by kernel_rfl)) (by unfold Func.isWrapper; first | (rw [if_pos (by decide +kernel)]; kernel_rfl) | (rw [if_neg (by decide +kernel)]; exact ⟨rfl, rfl⟩))
    (fun os started H enc _ F => lifted os started H enc F)

theorem proved : Rows.FramTellsUptoSaid :=
  over
end Go.Proofs.Ytmdbdbjaipcgeaa.framTells
