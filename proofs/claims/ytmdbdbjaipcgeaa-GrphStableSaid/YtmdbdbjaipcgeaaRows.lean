/-
  No cell of these rows narrows 'for every input' (looked for: loops, veiled, ifaces, maps, wideKeys, modest, calm, conditions, laid).
  DERIVED. THE GIVEN ROWS OF THIS SEAT. 15 by the template 'for every input the law returns true; each argument reads behind the call as it read before'; 0 by the template 'total and deterministic' (their statements: YtmdbdbjaipcgeaaTotals.lean).
  GIVEN WITH THE SEED: the statements are not yours to turn. If you find one false, say at which input.
  Laid BY PROGRAM, IN A SANDBOX (cutbox-rows.mjs): the forced cells as the released guide's own fill.sh prints them over the translation 34f06f42abe71fa2… (all of the seat's roots in one cut). By AI agents, Wed Nov 11 2026. No macro, syntax, notation, axiom, sorry.
-/
import Derived.Test.YtmdbdbjaipcgeaaChecked
import GoSem.Claim
import GoSem.ClaimJoined
import GoSem.ClaimMapViews
import Derived.JoinedTies
import Derived.KernelRfl
namespace Go.Proofs.Ytmdbdbjaipcgeaa
/- THE CELL 'sum', in the pinned program and in every row, IS THE sha256 OF THE DUMP (.gsa) THAT YtmdbdbjaipcgeaaProg.lean LOADS. Nothing in Lean hashes anything: it is a label: what it is worth is what the hold of that sum in a sandbox is worth. -/
noncomputable def Try.pinned : Pinned := { name := "ytmdbdbjaipcgeaa", sum := "34f06f42abe71fa2df7c11c539051b1967365532a498a2323d06402b89e4cea8", checked := Try.checked }
namespace Rows
def none {H : Type} : Left H := { results := [], args := [] }

/-- 'fettlelaw3.FramTells': WHATEVER THE INPUT: true; the input reads as it did. -/
def framTellsSpec : ChangeSpec := { name := "framTells", fn := fun _ => fun
  | [d1, d2, d3, d4] => { results := [.lit (.bool true)], args := [d1, d2, d3, d4] }
  | _ => none }
def framTellsRow : OpenClaim := { program := "ytmdbdbjaipcgeaa", sum := "34f06f42abe71fa2df7c11c539051b1967365532a498a2323d06402b89e4cea8", func := "fettle/fettlelaw3.FramTells", spec := "framTells", unfollowed := true, recurses := true, apart := false }
def FramTellsSaid : Prop := framTellsRow.holds Try.pinned (OpenSpec.ofChange framTellsSpec)

/-- ITS FALSE NEIGHBOUR: 'it returns false'. Refute it at one input. -/
def framTellsWrong : ChangeSpec := { name := "framTells", fn := fun _ => fun
  | [d1, d2, d3, d4] => { results := [.lit (.bool false)], args := [d1, d2, d3, d4] }
  | _ => none }
def FramTellsWrongFalsely : Prop := framTellsRow.holds Try.pinned (OpenSpec.ofChange framTellsWrong)

/-- 'fettlelaw11.ArtiForms': WHATEVER THE INPUT: true; the input reads as it did. -/
def artiFormsSpec : ChangeSpec := { name := "artiForms", fn := fun _ => fun
  | [d] => { results := [.lit (.bool true)], args := [d] }
  | _ => none }
def artiFormsRow : OpenClaim := { program := "ytmdbdbjaipcgeaa", sum := "34f06f42abe71fa2df7c11c539051b1967365532a498a2323d06402b89e4cea8", func := "fettle/fettlelaw11.ArtiForms", spec := "artiForms", unfollowed := true, recurses := true, apart := false }
def ArtiFormsSaid : Prop := artiFormsRow.holds Try.pinned (OpenSpec.ofChange artiFormsSpec)

/-- ITS FALSE NEIGHBOUR: 'it returns false'. Refute it at one input. -/
def artiFormsWrong : ChangeSpec := { name := "artiForms", fn := fun _ => fun
  | [d] => { results := [.lit (.bool false)], args := [d] }
  | _ => none }
def ArtiFormsWrongFalsely : Prop := artiFormsRow.holds Try.pinned (OpenSpec.ofChange artiFormsWrong)

/-- 'fettlelaw11.ArtiOwn': WHATEVER THE INPUT: true; the input reads as it did. -/
def artiOwnSpec : ChangeSpec := { name := "artiOwn", fn := fun _ => fun
  | [d1, d2, d3, d4] => { results := [.lit (.bool true)], args := [d1, d2, d3, d4] }
  | _ => none }
def artiOwnRow : OpenClaim := { program := "ytmdbdbjaipcgeaa", sum := "34f06f42abe71fa2df7c11c539051b1967365532a498a2323d06402b89e4cea8", func := "fettle/fettlelaw11.ArtiOwn", spec := "artiOwn", unfollowed := true, recurses := true, apart := false }
def ArtiOwnSaid : Prop := artiOwnRow.holds Try.pinned (OpenSpec.ofChange artiOwnSpec)

/-- ITS FALSE NEIGHBOUR: 'it returns false'. Refute it at one input. -/
def artiOwnWrong : ChangeSpec := { name := "artiOwn", fn := fun _ => fun
  | [d1, d2, d3, d4] => { results := [.lit (.bool false)], args := [d1, d2, d3, d4] }
  | _ => none }
def ArtiOwnWrongFalsely : Prop := artiOwnRow.holds Try.pinned (OpenSpec.ofChange artiOwnWrong)

/-- 'fettlelaw11.ArtiTells': WHATEVER THE INPUT: true; the input reads as it did. -/
def artiTellsSpec : ChangeSpec := { name := "artiTells", fn := fun _ => fun
  | [d1, d2, d3, d4, d5] => { results := [.lit (.bool true)], args := [d1, d2, d3, d4, d5] }
  | _ => none }
def artiTellsRow : OpenClaim := { program := "ytmdbdbjaipcgeaa", sum := "34f06f42abe71fa2df7c11c539051b1967365532a498a2323d06402b89e4cea8", func := "fettle/fettlelaw11.ArtiTells", spec := "artiTells", unfollowed := true, recurses := true, apart := false }
def ArtiTellsSaid : Prop := artiTellsRow.holds Try.pinned (OpenSpec.ofChange artiTellsSpec)

/-- ITS FALSE NEIGHBOUR: 'it returns false'. Refute it at one input. -/
def artiTellsWrong : ChangeSpec := { name := "artiTells", fn := fun _ => fun
  | [d1, d2, d3, d4, d5] => { results := [.lit (.bool false)], args := [d1, d2, d3, d4, d5] }
  | _ => none }
def ArtiTellsWrongFalsely : Prop := artiTellsRow.holds Try.pinned (OpenSpec.ofChange artiTellsWrong)

/-- 'fettlelaw11.ArtiTurned': WHATEVER THE INPUT: true; the input reads as it did. -/
def artiTurnedSpec : ChangeSpec := { name := "artiTurned", fn := fun _ => fun
  | [d1, d2, d3, d4] => { results := [.lit (.bool true)], args := [d1, d2, d3, d4] }
  | _ => none }
def artiTurnedRow : OpenClaim := { program := "ytmdbdbjaipcgeaa", sum := "34f06f42abe71fa2df7c11c539051b1967365532a498a2323d06402b89e4cea8", func := "fettle/fettlelaw11.ArtiTurned", spec := "artiTurned", unfollowed := true, recurses := true, apart := false }
def ArtiTurnedSaid : Prop := artiTurnedRow.holds Try.pinned (OpenSpec.ofChange artiTurnedSpec)

/-- ITS FALSE NEIGHBOUR: 'it returns false'. Refute it at one input. -/
def artiTurnedWrong : ChangeSpec := { name := "artiTurned", fn := fun _ => fun
  | [d1, d2, d3, d4] => { results := [.lit (.bool false)], args := [d1, d2, d3, d4] }
  | _ => none }
def ArtiTurnedWrongFalsely : Prop := artiTurnedRow.holds Try.pinned (OpenSpec.ofChange artiTurnedWrong)

/-- 'fettlelaw8.GrphKinds': WHATEVER THE INPUT: true; the input reads as it did. -/
def grphKindsSpec : ChangeSpec := { name := "grphKinds", fn := fun _ => fun
  | [d1, d2] => { results := [.lit (.bool true)], args := [d1, d2] }
  | _ => none }
def grphKindsRow : OpenClaim := { program := "ytmdbdbjaipcgeaa", sum := "34f06f42abe71fa2df7c11c539051b1967365532a498a2323d06402b89e4cea8", func := "fettle/fettlelaw8.GrphKinds", spec := "grphKinds", unfollowed := true, recurses := true, apart := false }
def GrphKindsSaid : Prop := grphKindsRow.holds Try.pinned (OpenSpec.ofChange grphKindsSpec)

/-- ITS FALSE NEIGHBOUR: 'it returns false'. Refute it at one input. -/
def grphKindsWrong : ChangeSpec := { name := "grphKinds", fn := fun _ => fun
  | [d1, d2] => { results := [.lit (.bool false)], args := [d1, d2] }
  | _ => none }
def GrphKindsWrongFalsely : Prop := grphKindsRow.holds Try.pinned (OpenSpec.ofChange grphKindsWrong)

/-- 'fettlelaw8.GrphWanted': WHATEVER THE INPUT: true; the input reads as it did. -/
def grphWantedSpec : ChangeSpec := { name := "grphWanted", fn := fun _ => fun
  | [d1, d2] => { results := [.lit (.bool true)], args := [d1, d2] }
  | _ => none }
def grphWantedRow : OpenClaim := { program := "ytmdbdbjaipcgeaa", sum := "34f06f42abe71fa2df7c11c539051b1967365532a498a2323d06402b89e4cea8", func := "fettle/fettlelaw8.GrphWanted", spec := "grphWanted", unfollowed := true, recurses := true, apart := false }
def GrphWantedSaid : Prop := grphWantedRow.holds Try.pinned (OpenSpec.ofChange grphWantedSpec)

/-- ITS FALSE NEIGHBOUR: 'it returns false'. Refute it at one input. -/
def grphWantedWrong : ChangeSpec := { name := "grphWanted", fn := fun _ => fun
  | [d1, d2] => { results := [.lit (.bool false)], args := [d1, d2] }
  | _ => none }
def GrphWantedWrongFalsely : Prop := grphWantedRow.holds Try.pinned (OpenSpec.ofChange grphWantedWrong)

/-- 'fettlelaw8.GrphStable': WHATEVER THE INPUT: true; the input reads as it did. -/
def grphStableSpec : ChangeSpec := { name := "grphStable", fn := fun _ => fun
  | [d1, d2] => { results := [.lit (.bool true)], args := [d1, d2] }
  | _ => none }
def grphStableRow : OpenClaim := { program := "ytmdbdbjaipcgeaa", sum := "34f06f42abe71fa2df7c11c539051b1967365532a498a2323d06402b89e4cea8", func := "fettle/fettlelaw8.GrphStable", spec := "grphStable", unfollowed := true, recurses := true, apart := false }
def GrphStableSaid : Prop := grphStableRow.holds Try.pinned (OpenSpec.ofChange grphStableSpec)

/-- ITS FALSE NEIGHBOUR: 'it returns false'. Refute it at one input. -/
def grphStableWrong : ChangeSpec := { name := "grphStable", fn := fun _ => fun
  | [d1, d2] => { results := [.lit (.bool false)], args := [d1, d2] }
  | _ => none }
def GrphStableWrongFalsely : Prop := grphStableRow.holds Try.pinned (OpenSpec.ofChange grphStableWrong)

/-- 'fettlelaw8.GrphOrder': WHATEVER THE INPUT: true; the input reads as it did. -/
def grphOrderSpec : ChangeSpec := { name := "grphOrder", fn := fun _ => fun
  | [d1, d2, d3] => { results := [.lit (.bool true)], args := [d1, d2, d3] }
  | _ => none }
def grphOrderRow : OpenClaim := { program := "ytmdbdbjaipcgeaa", sum := "34f06f42abe71fa2df7c11c539051b1967365532a498a2323d06402b89e4cea8", func := "fettle/fettlelaw8.GrphOrder", spec := "grphOrder", unfollowed := true, recurses := true, apart := false }
def GrphOrderSaid : Prop := grphOrderRow.holds Try.pinned (OpenSpec.ofChange grphOrderSpec)

/-- ITS FALSE NEIGHBOUR: 'it returns false'. Refute it at one input. -/
def grphOrderWrong : ChangeSpec := { name := "grphOrder", fn := fun _ => fun
  | [d1, d2, d3] => { results := [.lit (.bool false)], args := [d1, d2, d3] }
  | _ => none }
def GrphOrderWrongFalsely : Prop := grphOrderRow.holds Try.pinned (OpenSpec.ofChange grphOrderWrong)

/-- 'fettlelaw8.GrphReach': WHATEVER THE INPUT: true; the input reads as it did. -/
def grphReachSpec : ChangeSpec := { name := "grphReach", fn := fun _ => fun
  | [d1, d2, d3] => { results := [.lit (.bool true)], args := [d1, d2, d3] }
  | _ => none }
def grphReachRow : OpenClaim := { program := "ytmdbdbjaipcgeaa", sum := "34f06f42abe71fa2df7c11c539051b1967365532a498a2323d06402b89e4cea8", func := "fettle/fettlelaw8.GrphReach", spec := "grphReach", unfollowed := true, recurses := true, apart := false }
def GrphReachSaid : Prop := grphReachRow.holds Try.pinned (OpenSpec.ofChange grphReachSpec)

/-- ITS FALSE NEIGHBOUR: 'it returns false'. Refute it at one input. -/
def grphReachWrong : ChangeSpec := { name := "grphReach", fn := fun _ => fun
  | [d1, d2, d3] => { results := [.lit (.bool false)], args := [d1, d2, d3] }
  | _ => none }
def GrphReachWrongFalsely : Prop := grphReachRow.holds Try.pinned (OpenSpec.ofChange grphReachWrong)

/-- 'fettlelaw8.GrphRules': WHATEVER THE INPUT: true; the input reads as it did. -/
def grphRulesSpec : ChangeSpec := { name := "grphRules", fn := fun _ => fun
  | [d1, d2] => { results := [.lit (.bool true)], args := [d1, d2] }
  | _ => none }
def grphRulesRow : OpenClaim := { program := "ytmdbdbjaipcgeaa", sum := "34f06f42abe71fa2df7c11c539051b1967365532a498a2323d06402b89e4cea8", func := "fettle/fettlelaw8.GrphRules", spec := "grphRules", unfollowed := true, recurses := true, apart := false }
def GrphRulesSaid : Prop := grphRulesRow.holds Try.pinned (OpenSpec.ofChange grphRulesSpec)

/-- ITS FALSE NEIGHBOUR: 'it returns false'. Refute it at one input. -/
def grphRulesWrong : ChangeSpec := { name := "grphRules", fn := fun _ => fun
  | [d1, d2] => { results := [.lit (.bool false)], args := [d1, d2] }
  | _ => none }
def GrphRulesWrongFalsely : Prop := grphRulesRow.holds Try.pinned (OpenSpec.ofChange grphRulesWrong)

/-- 'fettlelaw12.RecoForms': WHATEVER THE INPUT: true; the input reads as it did. -/
def recoFormsSpec : ChangeSpec := { name := "recoForms", fn := fun _ => fun
  | [d] => { results := [.lit (.bool true)], args := [d] }
  | _ => none }
def recoFormsRow : OpenClaim := { program := "ytmdbdbjaipcgeaa", sum := "34f06f42abe71fa2df7c11c539051b1967365532a498a2323d06402b89e4cea8", func := "fettle/fettlelaw12.RecoForms", spec := "recoForms", unfollowed := true, recurses := true, apart := false }
def RecoFormsSaid : Prop := recoFormsRow.holds Try.pinned (OpenSpec.ofChange recoFormsSpec)

/-- ITS FALSE NEIGHBOUR: 'it returns false'. Refute it at one input. -/
def recoFormsWrong : ChangeSpec := { name := "recoForms", fn := fun _ => fun
  | [d] => { results := [.lit (.bool false)], args := [d] }
  | _ => none }
def RecoFormsWrongFalsely : Prop := recoFormsRow.holds Try.pinned (OpenSpec.ofChange recoFormsWrong)

/-- 'fettlelaw12.RecoTurned': WHATEVER THE INPUT: true; the input reads as it did. -/
def recoTurnedSpec : ChangeSpec := { name := "recoTurned", fn := fun _ => fun
  | [d1, d2, d3, d4] => { results := [.lit (.bool true)], args := [d1, d2, d3, d4] }
  | _ => none }
def recoTurnedRow : OpenClaim := { program := "ytmdbdbjaipcgeaa", sum := "34f06f42abe71fa2df7c11c539051b1967365532a498a2323d06402b89e4cea8", func := "fettle/fettlelaw12.RecoTurned", spec := "recoTurned", unfollowed := true, recurses := true, apart := false }
def RecoTurnedSaid : Prop := recoTurnedRow.holds Try.pinned (OpenSpec.ofChange recoTurnedSpec)

/-- ITS FALSE NEIGHBOUR: 'it returns false'. Refute it at one input. -/
def recoTurnedWrong : ChangeSpec := { name := "recoTurned", fn := fun _ => fun
  | [d1, d2, d3, d4] => { results := [.lit (.bool false)], args := [d1, d2, d3, d4] }
  | _ => none }
def RecoTurnedWrongFalsely : Prop := recoTurnedRow.holds Try.pinned (OpenSpec.ofChange recoTurnedWrong)

/-- 'fettlelaw12.RecoTells': WHATEVER THE INPUT: true; the input reads as it did. -/
def recoTellsSpec : ChangeSpec := { name := "recoTells", fn := fun _ => fun
  | [d1, d2, d3, d4, d5, d6] => { results := [.lit (.bool true)], args := [d1, d2, d3, d4, d5, d6] }
  | _ => none }
def recoTellsRow : OpenClaim := { program := "ytmdbdbjaipcgeaa", sum := "34f06f42abe71fa2df7c11c539051b1967365532a498a2323d06402b89e4cea8", func := "fettle/fettlelaw12.RecoTells", spec := "recoTells", unfollowed := true, recurses := true, apart := false }
def RecoTellsSaid : Prop := recoTellsRow.holds Try.pinned (OpenSpec.ofChange recoTellsSpec)

/-- ITS FALSE NEIGHBOUR: 'it returns false'. Refute it at one input. -/
def recoTellsWrong : ChangeSpec := { name := "recoTells", fn := fun _ => fun
  | [d1, d2, d3, d4, d5, d6] => { results := [.lit (.bool false)], args := [d1, d2, d3, d4, d5, d6] }
  | _ => none }
def RecoTellsWrongFalsely : Prop := recoTellsRow.holds Try.pinned (OpenSpec.ofChange recoTellsWrong)

/-- 'fettlelaw12.RecoTrace': WHATEVER THE INPUT: true; the input reads as it did. -/
def recoTraceSpec : ChangeSpec := { name := "recoTrace", fn := fun _ => fun
  | [d1, d2, d3] => { results := [.lit (.bool true)], args := [d1, d2, d3] }
  | _ => none }
def recoTraceRow : OpenClaim := { program := "ytmdbdbjaipcgeaa", sum := "34f06f42abe71fa2df7c11c539051b1967365532a498a2323d06402b89e4cea8", func := "fettle/fettlelaw12.RecoTrace", spec := "recoTrace", unfollowed := true, recurses := true, apart := false }
def RecoTraceSaid : Prop := recoTraceRow.holds Try.pinned (OpenSpec.ofChange recoTraceSpec)

/-- ITS FALSE NEIGHBOUR: 'it returns false'. Refute it at one input. -/
def recoTraceWrong : ChangeSpec := { name := "recoTrace", fn := fun _ => fun
  | [d1, d2, d3] => { results := [.lit (.bool false)], args := [d1, d2, d3] }
  | _ => none }
def RecoTraceWrongFalsely : Prop := recoTraceRow.holds Try.pinned (OpenSpec.ofChange recoTraceWrong)

/- THE SECOND FORM. 'bulk': how many values and letters a reading holds, each counted each time it is reached (what is shared counts as often as it is met; a slice's spare places count too). A statement '..UptoSaid' is the law's where the arguments, and the package variables that the reading takes, are together of bulk at most 1048576: NARROWER than '..Said'. Prove '..Said' where nothing that the law and all that it calls make is longer than what came in: it says more and counts as full. Else prove '..UptoSaid'. A law counts once. -/
mutual
def uptoBulk {H : Type} : DataW H → Nat
  | .lit (.string bytes) => bytes.length + 1
  | .lit _ => 1
  | .nil => 1
  | .ptr d => uptoBulk d + 1
  | .slice elems spare => uptoBulkAll elems + uptoBulkAll spare + 1
  | .agg parts => uptoBulkAll parts + 1
  | .iface _ d => uptoBulk d + 1
  | .map entries => uptoBulkEntries entries + 1
  | .held _ => 1
def uptoBulkAll {H : Type} : List (DataW H) → Nat
  | [] => 0
  | d :: r => uptoBulk d + uptoBulkAll r
def uptoBulkEntries {H : Type} : List (Lit × DataW H) → Nat
  | [] => 0
  | x :: r => uptoBulkEntry x + uptoBulkEntries r
def uptoBulkEntry {H : Type} : Lit × DataW H → Nat
  | (.string bytes, d) => bytes.length + uptoBulk d + 1
  | (_, d) => uptoBulk d + 1
 end
def uptoSmall : (H : Type) → List (DataW H) → Bool := fun _ ds => decide (uptoBulkAll ds ≤ 1048576)
def OpenSpec.upto (s : _root_.Go.ChangeSpec) : _root_.Go.OpenSpec := { _root_.Go.OpenSpec.ofChange s with cond := some uptoSmall }

/-- 'fettlelaw3.FramTells', WHERE WHAT IT READS IS OF BULK AT MOST 1048576: true; the input reads as it did. -/
def framTellsUptoRow : OpenClaim := { program := "ytmdbdbjaipcgeaa", sum := "34f06f42abe71fa2df7c11c539051b1967365532a498a2323d06402b89e4cea8", func := "fettle/fettlelaw3.FramTells", spec := "framTells", unfollowed := true, recurses := true, apart := false, narrowed := true }
def FramTellsUptoSaid : Prop := framTellsUptoRow.holds Try.pinned (OpenSpec.upto framTellsSpec)

/-- 'fettlelaw11.ArtiForms', WHERE WHAT IT READS IS OF BULK AT MOST 1048576: true; the input reads as it did. -/
def artiFormsUptoRow : OpenClaim := { program := "ytmdbdbjaipcgeaa", sum := "34f06f42abe71fa2df7c11c539051b1967365532a498a2323d06402b89e4cea8", func := "fettle/fettlelaw11.ArtiForms", spec := "artiForms", unfollowed := true, recurses := true, apart := false, narrowed := true }
def ArtiFormsUptoSaid : Prop := artiFormsUptoRow.holds Try.pinned (OpenSpec.upto artiFormsSpec)

/-- 'fettlelaw11.ArtiOwn', WHERE WHAT IT READS IS OF BULK AT MOST 1048576: true; the input reads as it did. -/
def artiOwnUptoRow : OpenClaim := { program := "ytmdbdbjaipcgeaa", sum := "34f06f42abe71fa2df7c11c539051b1967365532a498a2323d06402b89e4cea8", func := "fettle/fettlelaw11.ArtiOwn", spec := "artiOwn", unfollowed := true, recurses := true, apart := false, narrowed := true }
def ArtiOwnUptoSaid : Prop := artiOwnUptoRow.holds Try.pinned (OpenSpec.upto artiOwnSpec)

/-- 'fettlelaw11.ArtiTells', WHERE WHAT IT READS IS OF BULK AT MOST 1048576: true; the input reads as it did. -/
def artiTellsUptoRow : OpenClaim := { program := "ytmdbdbjaipcgeaa", sum := "34f06f42abe71fa2df7c11c539051b1967365532a498a2323d06402b89e4cea8", func := "fettle/fettlelaw11.ArtiTells", spec := "artiTells", unfollowed := true, recurses := true, apart := false, narrowed := true }
def ArtiTellsUptoSaid : Prop := artiTellsUptoRow.holds Try.pinned (OpenSpec.upto artiTellsSpec)

/-- 'fettlelaw11.ArtiTurned', WHERE WHAT IT READS IS OF BULK AT MOST 1048576: true; the input reads as it did. -/
def artiTurnedUptoRow : OpenClaim := { program := "ytmdbdbjaipcgeaa", sum := "34f06f42abe71fa2df7c11c539051b1967365532a498a2323d06402b89e4cea8", func := "fettle/fettlelaw11.ArtiTurned", spec := "artiTurned", unfollowed := true, recurses := true, apart := false, narrowed := true }
def ArtiTurnedUptoSaid : Prop := artiTurnedUptoRow.holds Try.pinned (OpenSpec.upto artiTurnedSpec)

/-- 'fettlelaw8.GrphKinds', WHERE WHAT IT READS IS OF BULK AT MOST 1048576: true; the input reads as it did. -/
def grphKindsUptoRow : OpenClaim := { program := "ytmdbdbjaipcgeaa", sum := "34f06f42abe71fa2df7c11c539051b1967365532a498a2323d06402b89e4cea8", func := "fettle/fettlelaw8.GrphKinds", spec := "grphKinds", unfollowed := true, recurses := true, apart := false, narrowed := true }
def GrphKindsUptoSaid : Prop := grphKindsUptoRow.holds Try.pinned (OpenSpec.upto grphKindsSpec)

/-- 'fettlelaw8.GrphWanted', WHERE WHAT IT READS IS OF BULK AT MOST 1048576: true; the input reads as it did. -/
def grphWantedUptoRow : OpenClaim := { program := "ytmdbdbjaipcgeaa", sum := "34f06f42abe71fa2df7c11c539051b1967365532a498a2323d06402b89e4cea8", func := "fettle/fettlelaw8.GrphWanted", spec := "grphWanted", unfollowed := true, recurses := true, apart := false, narrowed := true }
def GrphWantedUptoSaid : Prop := grphWantedUptoRow.holds Try.pinned (OpenSpec.upto grphWantedSpec)

/-- 'fettlelaw8.GrphStable', WHERE WHAT IT READS IS OF BULK AT MOST 1048576: true; the input reads as it did. -/
def grphStableUptoRow : OpenClaim := { program := "ytmdbdbjaipcgeaa", sum := "34f06f42abe71fa2df7c11c539051b1967365532a498a2323d06402b89e4cea8", func := "fettle/fettlelaw8.GrphStable", spec := "grphStable", unfollowed := true, recurses := true, apart := false, narrowed := true }
def GrphStableUptoSaid : Prop := grphStableUptoRow.holds Try.pinned (OpenSpec.upto grphStableSpec)

/-- 'fettlelaw8.GrphOrder', WHERE WHAT IT READS IS OF BULK AT MOST 1048576: true; the input reads as it did. -/
def grphOrderUptoRow : OpenClaim := { program := "ytmdbdbjaipcgeaa", sum := "34f06f42abe71fa2df7c11c539051b1967365532a498a2323d06402b89e4cea8", func := "fettle/fettlelaw8.GrphOrder", spec := "grphOrder", unfollowed := true, recurses := true, apart := false, narrowed := true }
def GrphOrderUptoSaid : Prop := grphOrderUptoRow.holds Try.pinned (OpenSpec.upto grphOrderSpec)

/-- 'fettlelaw8.GrphReach', WHERE WHAT IT READS IS OF BULK AT MOST 1048576: true; the input reads as it did. -/
def grphReachUptoRow : OpenClaim := { program := "ytmdbdbjaipcgeaa", sum := "34f06f42abe71fa2df7c11c539051b1967365532a498a2323d06402b89e4cea8", func := "fettle/fettlelaw8.GrphReach", spec := "grphReach", unfollowed := true, recurses := true, apart := false, narrowed := true }
def GrphReachUptoSaid : Prop := grphReachUptoRow.holds Try.pinned (OpenSpec.upto grphReachSpec)

/-- 'fettlelaw8.GrphRules', WHERE WHAT IT READS IS OF BULK AT MOST 1048576: true; the input reads as it did. -/
def grphRulesUptoRow : OpenClaim := { program := "ytmdbdbjaipcgeaa", sum := "34f06f42abe71fa2df7c11c539051b1967365532a498a2323d06402b89e4cea8", func := "fettle/fettlelaw8.GrphRules", spec := "grphRules", unfollowed := true, recurses := true, apart := false, narrowed := true }
def GrphRulesUptoSaid : Prop := grphRulesUptoRow.holds Try.pinned (OpenSpec.upto grphRulesSpec)

/-- 'fettlelaw12.RecoForms', WHERE WHAT IT READS IS OF BULK AT MOST 1048576: true; the input reads as it did. -/
def recoFormsUptoRow : OpenClaim := { program := "ytmdbdbjaipcgeaa", sum := "34f06f42abe71fa2df7c11c539051b1967365532a498a2323d06402b89e4cea8", func := "fettle/fettlelaw12.RecoForms", spec := "recoForms", unfollowed := true, recurses := true, apart := false, narrowed := true }
def RecoFormsUptoSaid : Prop := recoFormsUptoRow.holds Try.pinned (OpenSpec.upto recoFormsSpec)

/-- 'fettlelaw12.RecoTurned', WHERE WHAT IT READS IS OF BULK AT MOST 1048576: true; the input reads as it did. -/
def recoTurnedUptoRow : OpenClaim := { program := "ytmdbdbjaipcgeaa", sum := "34f06f42abe71fa2df7c11c539051b1967365532a498a2323d06402b89e4cea8", func := "fettle/fettlelaw12.RecoTurned", spec := "recoTurned", unfollowed := true, recurses := true, apart := false, narrowed := true }
def RecoTurnedUptoSaid : Prop := recoTurnedUptoRow.holds Try.pinned (OpenSpec.upto recoTurnedSpec)

/-- 'fettlelaw12.RecoTells', WHERE WHAT IT READS IS OF BULK AT MOST 1048576: true; the input reads as it did. -/
def recoTellsUptoRow : OpenClaim := { program := "ytmdbdbjaipcgeaa", sum := "34f06f42abe71fa2df7c11c539051b1967365532a498a2323d06402b89e4cea8", func := "fettle/fettlelaw12.RecoTells", spec := "recoTells", unfollowed := true, recurses := true, apart := false, narrowed := true }
def RecoTellsUptoSaid : Prop := recoTellsUptoRow.holds Try.pinned (OpenSpec.upto recoTellsSpec)

/-- 'fettlelaw12.RecoTrace', WHERE WHAT IT READS IS OF BULK AT MOST 1048576: true; the input reads as it did. -/
def recoTraceUptoRow : OpenClaim := { program := "ytmdbdbjaipcgeaa", sum := "34f06f42abe71fa2df7c11c539051b1967365532a498a2323d06402b89e4cea8", func := "fettle/fettlelaw12.RecoTrace", spec := "recoTrace", unfollowed := true, recurses := true, apart := false, narrowed := true }
def RecoTraceUptoSaid : Prop := recoTraceUptoRow.holds Try.pinned (OpenSpec.upto recoTraceSpec)

end Rows
end Go.Proofs.Ytmdbdbjaipcgeaa
