/-
  No cell of these rows narrows 'for every input' (looked for: loops, veiled, ifaces, maps, wideKeys, modest, calm, conditions, laid).
  DERIVED. THE GIVEN ROWS OF THIS SEAT. 7 by the template 'for every input the law returns true; each argument reads behind the call as it read before'; 0 by the template 'total and deterministic' (their statements: YtnonfejhkbaikaaTotals.lean).
  GIVEN WITH THE SEED: the statements are not yours to turn. If you find one false, say at which input.
  Laid BY PROGRAM, IN A SANDBOX (cutbox-rows.mjs): the forced cells as the released guide's own fill.sh prints them over the translation 9c62d7b18cc7131a… (all of the seat's roots in one cut). By AI agents, Wed Nov 11 2026. No macro, syntax, notation, axiom, sorry.
-/
import Derived.Test.YtnonfejhkbaikaaChecked
import GoSem.Claim
import GoSem.ClaimJoined
import GoSem.ClaimMapViews
import Derived.JoinedTies
import Derived.KernelRfl
namespace Go.Proofs.Ytnonfejhkbaikaa
/- THE CELL 'sum', in the pinned program and in every row, IS THE sha256 OF THE DUMP (.gsa) THAT YtnonfejhkbaikaaProg.lean LOADS. Nothing in Lean hashes anything: it is a label: what it is worth is what the hold of that sum in a sandbox is worth. -/
noncomputable def Try.pinned : Pinned := { name := "ytnonfejhkbaikaa", sum := "9c62d7b18cc7131aeebf5a3e76fa294549335beca271f98e26df8b71eb488dd8", checked := Try.checked }
namespace Rows
def none {H : Type} : Left H := { results := [], args := [] }

/-- 'fettlelaw8.GrphKinds': WHATEVER THE INPUT: true; the input reads as it did. -/
def grphKindsSpec : ChangeSpec := { name := "grphKinds", fn := fun _ => fun
  | [d1, d2] => { results := [.lit (.bool true)], args := [d1, d2] }
  | _ => none }
def grphKindsRow : OpenClaim := { program := "ytnonfejhkbaikaa", sum := "9c62d7b18cc7131aeebf5a3e76fa294549335beca271f98e26df8b71eb488dd8", func := "fettle/fettlelaw8.GrphKinds", spec := "grphKinds", unfollowed := true, recurses := true, apart := false }
def GrphKindsSaid : Prop := grphKindsRow.holds Try.pinned (OpenSpec.ofChange grphKindsSpec)

/-- ITS FALSE NEIGHBOUR: 'it returns false'. Refute it at one input. -/
def grphKindsWrong : ChangeSpec := { name := "grphKinds", fn := fun _ => fun
  | [d1, d2] => { results := [.lit (.bool false)], args := [d1, d2] }
  | _ => none }
def GrphKindsWrongFalsely : Prop := grphKindsRow.holds Try.pinned (OpenSpec.ofChange grphKindsWrong)

/-- 'fettlelaw8.GrphWanted': WHATEVER THE INPUT: true; the input reads as it did. -/
def grphWantedSpec : ChangeSpec := { name := "grphWanted", fn := fun _ => fun
  | [d1, d2] => { results := [.lit (.bool true)], args := [d1, d2] }
  | _ => none }
def grphWantedRow : OpenClaim := { program := "ytnonfejhkbaikaa", sum := "9c62d7b18cc7131aeebf5a3e76fa294549335beca271f98e26df8b71eb488dd8", func := "fettle/fettlelaw8.GrphWanted", spec := "grphWanted", unfollowed := true, recurses := true, apart := false }
def GrphWantedSaid : Prop := grphWantedRow.holds Try.pinned (OpenSpec.ofChange grphWantedSpec)

/-- ITS FALSE NEIGHBOUR: 'it returns false'. Refute it at one input. -/
def grphWantedWrong : ChangeSpec := { name := "grphWanted", fn := fun _ => fun
  | [d1, d2] => { results := [.lit (.bool false)], args := [d1, d2] }
  | _ => none }
def GrphWantedWrongFalsely : Prop := grphWantedRow.holds Try.pinned (OpenSpec.ofChange grphWantedWrong)

/-- 'fettlelaw8.GrphReach': WHATEVER THE INPUT: true; the input reads as it did. -/
def grphReachSpec : ChangeSpec := { name := "grphReach", fn := fun _ => fun
  | [d1, d2, d3] => { results := [.lit (.bool true)], args := [d1, d2, d3] }
  | _ => none }
def grphReachRow : OpenClaim := { program := "ytnonfejhkbaikaa", sum := "9c62d7b18cc7131aeebf5a3e76fa294549335beca271f98e26df8b71eb488dd8", func := "fettle/fettlelaw8.GrphReach", spec := "grphReach", unfollowed := true, recurses := true, apart := false }
def GrphReachSaid : Prop := grphReachRow.holds Try.pinned (OpenSpec.ofChange grphReachSpec)

/-- ITS FALSE NEIGHBOUR: 'it returns false'. Refute it at one input. -/
def grphReachWrong : ChangeSpec := { name := "grphReach", fn := fun _ => fun
  | [d1, d2, d3] => { results := [.lit (.bool false)], args := [d1, d2, d3] }
  | _ => none }
def GrphReachWrongFalsely : Prop := grphReachRow.holds Try.pinned (OpenSpec.ofChange grphReachWrong)

/-- 'fettlelaw8.GrphRules': WHATEVER THE INPUT: true; the input reads as it did. -/
def grphRulesSpec : ChangeSpec := { name := "grphRules", fn := fun _ => fun
  | [d1, d2] => { results := [.lit (.bool true)], args := [d1, d2] }
  | _ => none }
def grphRulesRow : OpenClaim := { program := "ytnonfejhkbaikaa", sum := "9c62d7b18cc7131aeebf5a3e76fa294549335beca271f98e26df8b71eb488dd8", func := "fettle/fettlelaw8.GrphRules", spec := "grphRules", unfollowed := true, recurses := true, apart := false }
def GrphRulesSaid : Prop := grphRulesRow.holds Try.pinned (OpenSpec.ofChange grphRulesSpec)

/-- ITS FALSE NEIGHBOUR: 'it returns false'. Refute it at one input. -/
def grphRulesWrong : ChangeSpec := { name := "grphRules", fn := fun _ => fun
  | [d1, d2] => { results := [.lit (.bool false)], args := [d1, d2] }
  | _ => none }
def GrphRulesWrongFalsely : Prop := grphRulesRow.holds Try.pinned (OpenSpec.ofChange grphRulesWrong)

/-- 'fettlelaw18.PlanOwn': WHATEVER THE INPUT: true; the input reads as it did. -/
def planOwnSpec : ChangeSpec := { name := "planOwn", fn := fun _ => fun
  | [d1, d2, d3] => { results := [.lit (.bool true)], args := [d1, d2, d3] }
  | _ => none }
def planOwnRow : OpenClaim := { program := "ytnonfejhkbaikaa", sum := "9c62d7b18cc7131aeebf5a3e76fa294549335beca271f98e26df8b71eb488dd8", func := "fettle/fettlelaw18.PlanOwn", spec := "planOwn", unfollowed := true, recurses := true, apart := false }
def PlanOwnSaid : Prop := planOwnRow.holds Try.pinned (OpenSpec.ofChange planOwnSpec)

/-- ITS FALSE NEIGHBOUR: 'it returns false'. Refute it at one input. -/
def planOwnWrong : ChangeSpec := { name := "planOwn", fn := fun _ => fun
  | [d1, d2, d3] => { results := [.lit (.bool false)], args := [d1, d2, d3] }
  | _ => none }
def PlanOwnWrongFalsely : Prop := planOwnRow.holds Try.pinned (OpenSpec.ofChange planOwnWrong)

/-- 'fettlelaw18.PlanFails': WHATEVER THE INPUT: true; the input reads as it did. -/
def planFailsSpec : ChangeSpec := { name := "planFails", fn := fun _ => fun
  | [d1, d2] => { results := [.lit (.bool true)], args := [d1, d2] }
  | _ => none }
def planFailsRow : OpenClaim := { program := "ytnonfejhkbaikaa", sum := "9c62d7b18cc7131aeebf5a3e76fa294549335beca271f98e26df8b71eb488dd8", func := "fettle/fettlelaw18.PlanFails", spec := "planFails", unfollowed := true, recurses := true, apart := false }
def PlanFailsSaid : Prop := planFailsRow.holds Try.pinned (OpenSpec.ofChange planFailsSpec)

/-- ITS FALSE NEIGHBOUR: 'it returns false'. Refute it at one input. -/
def planFailsWrong : ChangeSpec := { name := "planFails", fn := fun _ => fun
  | [d1, d2] => { results := [.lit (.bool false)], args := [d1, d2] }
  | _ => none }
def PlanFailsWrongFalsely : Prop := planFailsRow.holds Try.pinned (OpenSpec.ofChange planFailsWrong)

/-- 'fettlelaw18.PlanEnds': WHATEVER THE INPUT: true; the input reads as it did. -/
def planEndsSpec : ChangeSpec := { name := "planEnds", fn := fun _ => fun
  | [d1, d2] => { results := [.lit (.bool true)], args := [d1, d2] }
  | _ => none }
def planEndsRow : OpenClaim := { program := "ytnonfejhkbaikaa", sum := "9c62d7b18cc7131aeebf5a3e76fa294549335beca271f98e26df8b71eb488dd8", func := "fettle/fettlelaw18.PlanEnds", spec := "planEnds", unfollowed := true, recurses := true, apart := false }
def PlanEndsSaid : Prop := planEndsRow.holds Try.pinned (OpenSpec.ofChange planEndsSpec)

/-- ITS FALSE NEIGHBOUR: 'it returns false'. Refute it at one input. -/
def planEndsWrong : ChangeSpec := { name := "planEnds", fn := fun _ => fun
  | [d1, d2] => { results := [.lit (.bool false)], args := [d1, d2] }
  | _ => none }
def PlanEndsWrongFalsely : Prop := planEndsRow.holds Try.pinned (OpenSpec.ofChange planEndsWrong)

/- THE SECOND FORM. 'bulk': how many values and letters a reading holds, each counted each time it is reached (what is shared counts as often as it is met; a slice's spare places count too). A statement '..UptoSaid' is the law's where the arguments, and the package variables that the reading takes, are together of bulk at most 1048576: NARROWER than '..Said'. Prove '..Said' where nothing that the law and all that it calls make is longer than what came in: it says more and counts as full. Else prove '..UptoSaid'. A law counts once. -/
mutual
def uptoBulk {H : Type} : DataW H → Nat
  | .lit (.string bytes) => bytes.length + 1
  | .lit _ => 1
  | .nil => 1
  | .ptr d => uptoBulk d + 1
  | .slice elems spare => uptoBulkAll elems + uptoBulkAll spare + 1
  | .agg parts => uptoBulkAll parts + 1
  | .iface _ d => uptoBulk d + 1
  | .map entries => uptoBulkEntries entries + 1
  | .held _ => 1
def uptoBulkAll {H : Type} : List (DataW H) → Nat
  | [] => 0
  | d :: r => uptoBulk d + uptoBulkAll r
def uptoBulkEntries {H : Type} : List (Lit × DataW H) → Nat
  | [] => 0
  | x :: r => uptoBulkEntry x + uptoBulkEntries r
def uptoBulkEntry {H : Type} : Lit × DataW H → Nat
  | (.string bytes, d) => bytes.length + uptoBulk d + 1
  | (_, d) => uptoBulk d + 1
 end
def uptoSmall : (H : Type) → List (DataW H) → Bool := fun _ ds => decide (uptoBulkAll ds ≤ 1048576)
def OpenSpec.upto (s : _root_.Go.ChangeSpec) : _root_.Go.OpenSpec := { _root_.Go.OpenSpec.ofChange s with cond := some uptoSmall }

/-- 'fettlelaw8.GrphKinds', WHERE WHAT IT READS IS OF BULK AT MOST 1048576: true; the input reads as it did. -/
def grphKindsUptoRow : OpenClaim := { program := "ytnonfejhkbaikaa", sum := "9c62d7b18cc7131aeebf5a3e76fa294549335beca271f98e26df8b71eb488dd8", func := "fettle/fettlelaw8.GrphKinds", spec := "grphKinds", unfollowed := true, recurses := true, apart := false, narrowed := true }
def GrphKindsUptoSaid : Prop := grphKindsUptoRow.holds Try.pinned (OpenSpec.upto grphKindsSpec)

/-- 'fettlelaw8.GrphWanted', WHERE WHAT IT READS IS OF BULK AT MOST 1048576: true; the input reads as it did. -/
def grphWantedUptoRow : OpenClaim := { program := "ytnonfejhkbaikaa", sum := "9c62d7b18cc7131aeebf5a3e76fa294549335beca271f98e26df8b71eb488dd8", func := "fettle/fettlelaw8.GrphWanted", spec := "grphWanted", unfollowed := true, recurses := true, apart := false, narrowed := true }
def GrphWantedUptoSaid : Prop := grphWantedUptoRow.holds Try.pinned (OpenSpec.upto grphWantedSpec)

/-- 'fettlelaw8.GrphReach', WHERE WHAT IT READS IS OF BULK AT MOST 1048576: true; the input reads as it did. -/
def grphReachUptoRow : OpenClaim := { program := "ytnonfejhkbaikaa", sum := "9c62d7b18cc7131aeebf5a3e76fa294549335beca271f98e26df8b71eb488dd8", func := "fettle/fettlelaw8.GrphReach", spec := "grphReach", unfollowed := true, recurses := true, apart := false, narrowed := true }
def GrphReachUptoSaid : Prop := grphReachUptoRow.holds Try.pinned (OpenSpec.upto grphReachSpec)

/-- 'fettlelaw8.GrphRules', WHERE WHAT IT READS IS OF BULK AT MOST 1048576: true; the input reads as it did. -/
def grphRulesUptoRow : OpenClaim := { program := "ytnonfejhkbaikaa", sum := "9c62d7b18cc7131aeebf5a3e76fa294549335beca271f98e26df8b71eb488dd8", func := "fettle/fettlelaw8.GrphRules", spec := "grphRules", unfollowed := true, recurses := true, apart := false, narrowed := true }
def GrphRulesUptoSaid : Prop := grphRulesUptoRow.holds Try.pinned (OpenSpec.upto grphRulesSpec)

/-- 'fettlelaw18.PlanOwn', WHERE WHAT IT READS IS OF BULK AT MOST 1048576: true; the input reads as it did. -/
def planOwnUptoRow : OpenClaim := { program := "ytnonfejhkbaikaa", sum := "9c62d7b18cc7131aeebf5a3e76fa294549335beca271f98e26df8b71eb488dd8", func := "fettle/fettlelaw18.PlanOwn", spec := "planOwn", unfollowed := true, recurses := true, apart := false, narrowed := true }
def PlanOwnUptoSaid : Prop := planOwnUptoRow.holds Try.pinned (OpenSpec.upto planOwnSpec)

/-- 'fettlelaw18.PlanFails', WHERE WHAT IT READS IS OF BULK AT MOST 1048576: true; the input reads as it did. -/
def planFailsUptoRow : OpenClaim := { program := "ytnonfejhkbaikaa", sum := "9c62d7b18cc7131aeebf5a3e76fa294549335beca271f98e26df8b71eb488dd8", func := "fettle/fettlelaw18.PlanFails", spec := "planFails", unfollowed := true, recurses := true, apart := false, narrowed := true }
def PlanFailsUptoSaid : Prop := planFailsUptoRow.holds Try.pinned (OpenSpec.upto planFailsSpec)

/-- 'fettlelaw18.PlanEnds', WHERE WHAT IT READS IS OF BULK AT MOST 1048576: true; the input reads as it did. -/
def planEndsUptoRow : OpenClaim := { program := "ytnonfejhkbaikaa", sum := "9c62d7b18cc7131aeebf5a3e76fa294549335beca271f98e26df8b71eb488dd8", func := "fettle/fettlelaw18.PlanEnds", spec := "planEnds", unfollowed := true, recurses := true, apart := false, narrowed := true }
def PlanEndsUptoSaid : Prop := planEndsUptoRow.holds Try.pinned (OpenSpec.upto planEndsSpec)

end Rows
end Go.Proofs.Ytnonfejhkbaikaa
