/- Layer 25: commits in a list. -/
import Derived.Test.YtpacolplhcfamaaPY25b
import Derived.Test.YtpacolplhcfamaaPAW
namespace Go.G
open Go.Ab Go.Proofs Go.RowKit
set_option linter.unusedVariables false
set_option linter.unusedSimpArgs false
set_option maxRecDepth 100000

theorem awake25_ok {M : Store} {Q : Value → Store → Prop} (hQ : Q (tv true) M) : R F.fettlelaw25_awake #[] M Q := R_told (g := yes0) (by kernel_rfl) rfl hQ
theorem bl_cm (p : CP) : bldL (.agg #[(.int .i64 0), (.string ⟨#[]⟩), (.slice none 0 0), (.bool false)]) 4 1 [(0, .agg (ccs p).toArray)] = some (ccs p) := by obtain ⟨⟨a, b, c, d⟩, x, y, z⟩ := p; kernel_rfl
abbrev NCM (M0 M : Store) (v : Value) (ps : List CP) : Prop := NK 4 ccs Ty.api_Commit M0 M v ps
/-- One commit more. -/
theorem app_cm {M0 M : Store} {x6 : Value} {ps : List CP} {p : CP} (hu : Up M0 M) (hN : NCM M0 M x6 ps) (hB : CB M ps) (hp : B M (slT p.2) p.1.2.2.1) (hl : ps.length ≤ 1000) {K : Value → Store → Prop}
    (hK : ∀ v' M', Up M0 M' → NCM M0 M' v' (ps ++ [p]) → CB M' (ps ++ [p]) → Ch (kl x6) M M' → K v' M') :
    OP (bldL (.agg #[(.int .i64 0), (.string ⟨#[]⟩), (.slice none 0 0), (.bool false)]) 4 1 [(0, .agg (ccs p).toArray)]) fun c => LT (.slice (some ⟨M.n, 0, none⟩) 1 1) (M.push (some (.inl (c, Ty.api_Commit, true)))) fun t M1 => OP2 (appV 4 Ty.api_Commit x6 t M1) K := by
  rw [bl_cm, OP_some, LT_eq]
  refine NK.app1 (M0 := M0) (Mb := M0) ccs_len hu (Nat.le_refl _) hu.n hN p rfl (by omega) fun v' M' hu' hN' hc' _ => ?_
  have hk := Nw.keepE hN hc'
  refine hK v' M' hu' hN' (fun q hq => ?_) hc'
  rcases List.mem_append.1 hq with hq | hq
  · exact Sl.keep (hB q hq) (by decide) hk
  · have : q = p := by simpa using hq
    subst this
    exact Sl.keep hp (by decide) hk
end Go.G
