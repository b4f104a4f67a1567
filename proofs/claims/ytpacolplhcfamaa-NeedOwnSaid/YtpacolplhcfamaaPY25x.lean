/- What lies in the boxes of a region's earlier steps may be touched. -/
import Derived.Test.YtpacolplhcfamaaPN1
namespace Go.G
open Go.Ab Go.Proofs Go.RowKit
theorem Ch.tdxR {M M' : Store} {b : Nat} (h : Ch [b] M M') (ho : (M.get b).isSome = true) {bs Ns : List Nat} {i : Nat} (hacc : accB bs Ns i b = true) : TDx bs Ns i M M' :=
  ⟨h.n, fun c hc => by
    rcases h.tdiff c hc with hc | hc
    · exact .inl hc
    · have : c = b := by simpa using hc
      subst this
      exact .inr ⟨ho, hacc⟩⟩
theorem accB_of {bs Ns : List Nat} {i b j : Nat} (hj : j < i) (ht : (bs.getD i 0).testBit j = true) (h1 : Ns.getD j 0 ≤ b) (h2 : b < Ns.getD (j + 1) 0) : accB bs Ns i b = true := by
  unfold accB
  rw [Bool.or_eq_true]
  refine .inr (List.any_eq_true.2 ⟨j, List.mem_range.2 hj, ?_⟩)
  rw [ht, Bool.true_and, Bool.and_eq_true]
  exact ⟨decide_eq_true h1, decide_eq_true h2⟩
end Go.G
