/-
  No cell of these rows narrows 'for every input' (looked for: loops, veiled, ifaces, maps, wideKeys, modest, calm, conditions, laid).
  DERIVED. THE GIVEN ROWS OF THIS SEAT. 15 by the template 'for every input the law returns true; each argument reads behind the call as it read before'; 0 by the template 'total and deterministic' (their statements: YtpacolplhcfamaaTotals.lean).
  GIVEN WITH THE SEED: the statements are not yours to turn. If you find one false, say at which input.
  Laid BY PROGRAM, IN A SANDBOX (cutbox-rows.mjs): the forced cells as the released guide's own fill.sh prints them over the translation 646fdc8999fa2ad3… (all of the seat's roots in one cut). By AI agents, Wed Nov 11 2026. No macro, syntax, notation, axiom, sorry.
-/
import Derived.Test.YtpacolplhcfamaaChecked
import GoSem.Claim
import GoSem.ClaimJoined
import GoSem.ClaimMapViews
import Derived.JoinedTies
import Derived.KernelRfl
namespace Go.Proofs.Ytpacolplhcfamaa
/- THE CELL 'sum', in the pinned program and in every row, IS THE sha256 OF THE DUMP (.gsa) THAT YtpacolplhcfamaaProg.lean LOADS. Nothing in Lean hashes anything: it is a label: what it is worth is what the hold of that sum in a sandbox is worth. -/
noncomputable def Try.pinned : Pinned := { name := "ytpacolplhcfamaa", sum := "646fdc8999fa2ad3d0de3e0dd0626cdebd9ecacce0ffb457fcd7b4751c0e759b", checked := Try.checked }
namespace Rows
def none {H : Type} : Left H := { results := [], args := [] }

/-- 'fettlelaw10.PrntLong': WHATEVER THE INPUT: true; the input reads as it did. -/
def prntLongSpec : ChangeSpec := { name := "prntLong", fn := fun _ => fun
  | [d1, d2] => { results := [.lit (.bool true)], args := [d1, d2] }
  | _ => none }
def prntLongRow : OpenClaim := { program := "ytpacolplhcfamaa", sum := "646fdc8999fa2ad3d0de3e0dd0626cdebd9ecacce0ffb457fcd7b4751c0e759b", func := "fettle/fettlelaw10.PrntLong", spec := "prntLong", inPlace := ["internal/bytealg.MakeNoZero"], apart := false }
def PrntLongSaid : Prop := prntLongRow.holds Try.pinned (OpenSpec.ofChange prntLongSpec)

/-- ITS FALSE NEIGHBOUR: 'it returns false'. Refute it at one input. -/
def prntLongWrong : ChangeSpec := { name := "prntLong", fn := fun _ => fun
  | [d1, d2] => { results := [.lit (.bool false)], args := [d1, d2] }
  | _ => none }
def PrntLongWrongFalsely : Prop := prntLongRow.holds Try.pinned (OpenSpec.ofChange prntLongWrong)

/-- 'fettlelaw10.PrntOwn': WHATEVER THE INPUT: true; the input reads as it did. -/
def prntOwnSpec : ChangeSpec := { name := "prntOwn", fn := fun _ => fun
  | [d1, d2] => { results := [.lit (.bool true)], args := [d1, d2] }
  | _ => none }
def prntOwnRow : OpenClaim := { program := "ytpacolplhcfamaa", sum := "646fdc8999fa2ad3d0de3e0dd0626cdebd9ecacce0ffb457fcd7b4751c0e759b", func := "fettle/fettlelaw10.PrntOwn", spec := "prntOwn", inPlace := ["internal/bytealg.MakeNoZero"], apart := false }
def PrntOwnSaid : Prop := prntOwnRow.holds Try.pinned (OpenSpec.ofChange prntOwnSpec)

/-- ITS FALSE NEIGHBOUR: 'it returns false'. Refute it at one input. -/
def prntOwnWrong : ChangeSpec := { name := "prntOwn", fn := fun _ => fun
  | [d1, d2] => { results := [.lit (.bool false)], args := [d1, d2] }
  | _ => none }
def PrntOwnWrongFalsely : Prop := prntOwnRow.holds Try.pinned (OpenSpec.ofChange prntOwnWrong)

/-- 'fettlelaw10.PrntTells': WHATEVER THE INPUT: true; the input reads as it did. -/
def prntTellsSpec : ChangeSpec := { name := "prntTells", fn := fun _ => fun
  | [d1, d2, d3, d4, d5, d6] => { results := [.lit (.bool true)], args := [d1, d2, d3, d4, d5, d6] }
  | _ => none }
def prntTellsRow : OpenClaim := { program := "ytpacolplhcfamaa", sum := "646fdc8999fa2ad3d0de3e0dd0626cdebd9ecacce0ffb457fcd7b4751c0e759b", func := "fettle/fettlelaw10.PrntTells", spec := "prntTells", inPlace := ["internal/bytealg.MakeNoZero"], apart := false }
def PrntTellsSaid : Prop := prntTellsRow.holds Try.pinned (OpenSpec.ofChange prntTellsSpec)

/-- ITS FALSE NEIGHBOUR: 'it returns false'. Refute it at one input. -/
def prntTellsWrong : ChangeSpec := { name := "prntTells", fn := fun _ => fun
  | [d1, d2, d3, d4, d5, d6] => { results := [.lit (.bool false)], args := [d1, d2, d3, d4, d5, d6] }
  | _ => none }
def PrntTellsWrongFalsely : Prop := prntTellsRow.holds Try.pinned (OpenSpec.ofChange prntTellsWrong)

/-- 'fettlelaw10.PrntApart': WHATEVER THE INPUT: true; the input reads as it did. -/
def prntApartSpec : ChangeSpec := { name := "prntApart", fn := fun _ => fun
  | [d1, d2, d3, d4, d5] => { results := [.lit (.bool true)], args := [d1, d2, d3, d4, d5] }
  | _ => none }
def prntApartRow : OpenClaim := { program := "ytpacolplhcfamaa", sum := "646fdc8999fa2ad3d0de3e0dd0626cdebd9ecacce0ffb457fcd7b4751c0e759b", func := "fettle/fettlelaw10.PrntApart", spec := "prntApart", inPlace := ["internal/bytealg.MakeNoZero"], apart := false }
def PrntApartSaid : Prop := prntApartRow.holds Try.pinned (OpenSpec.ofChange prntApartSpec)

/-- ITS FALSE NEIGHBOUR: 'it returns false'. Refute it at one input. -/
def prntApartWrong : ChangeSpec := { name := "prntApart", fn := fun _ => fun
  | [d1, d2, d3, d4, d5] => { results := [.lit (.bool false)], args := [d1, d2, d3, d4, d5] }
  | _ => none }
def PrntApartWrongFalsely : Prop := prntApartRow.holds Try.pinned (OpenSpec.ofChange prntApartWrong)

/-- 'fettlelaw15.SourSteps': WHATEVER THE INPUT: true; the input reads as it did. -/
def sourStepsSpec : ChangeSpec := { name := "sourSteps", fn := fun _ => fun
  | [d1, d2] => { results := [.lit (.bool true)], args := [d1, d2] }
  | _ => none }
def sourStepsRow : OpenClaim := { program := "ytpacolplhcfamaa", sum := "646fdc8999fa2ad3d0de3e0dd0626cdebd9ecacce0ffb457fcd7b4751c0e759b", func := "fettle/fettlelaw15.SourSteps", spec := "sourSteps", inPlace := ["internal/bytealg.IndexByteString", "internal/bytealg.IndexString"], unfollowed := true, recurses := true, named := ["internal/bytealg.MaxLen"], apart := false }
def SourStepsSaid : Prop := sourStepsRow.holds Try.pinned (OpenSpec.ofChange sourStepsSpec)

/-- ITS FALSE NEIGHBOUR: 'it returns false'. Refute it at one input. -/
def sourStepsWrong : ChangeSpec := { name := "sourSteps", fn := fun _ => fun
  | [d1, d2] => { results := [.lit (.bool false)], args := [d1, d2] }
  | _ => none }
def SourStepsWrongFalsely : Prop := sourStepsRow.holds Try.pinned (OpenSpec.ofChange sourStepsWrong)

/-- 'fettlelaw15.SourOwn': WHATEVER THE INPUT: true; the input reads as it did. -/
def sourOwnSpec : ChangeSpec := { name := "sourOwn", fn := fun _ => fun
  | [d1, d2] => { results := [.lit (.bool true)], args := [d1, d2] }
  | _ => none }
def sourOwnRow : OpenClaim := { program := "ytpacolplhcfamaa", sum := "646fdc8999fa2ad3d0de3e0dd0626cdebd9ecacce0ffb457fcd7b4751c0e759b", func := "fettle/fettlelaw15.SourOwn", spec := "sourOwn", inPlace := ["internal/bytealg.IndexByteString", "internal/bytealg.IndexString"], unfollowed := true, recurses := true, named := ["internal/bytealg.MaxLen"], apart := false }
def SourOwnSaid : Prop := sourOwnRow.holds Try.pinned (OpenSpec.ofChange sourOwnSpec)

/-- ITS FALSE NEIGHBOUR: 'it returns false'. Refute it at one input. -/
def sourOwnWrong : ChangeSpec := { name := "sourOwn", fn := fun _ => fun
  | [d1, d2] => { results := [.lit (.bool false)], args := [d1, d2] }
  | _ => none }
def SourOwnWrongFalsely : Prop := sourOwnRow.holds Try.pinned (OpenSpec.ofChange sourOwnWrong)

/-- 'fettlelaw15.SourMoment': WHATEVER THE INPUT: true; the input reads as it did. -/
def sourMomentSpec : ChangeSpec := { name := "sourMoment", fn := fun _ => fun
  | [d1, d2] => { results := [.lit (.bool true)], args := [d1, d2] }
  | _ => none }
def sourMomentRow : OpenClaim := { program := "ytpacolplhcfamaa", sum := "646fdc8999fa2ad3d0de3e0dd0626cdebd9ecacce0ffb457fcd7b4751c0e759b", func := "fettle/fettlelaw15.SourMoment", spec := "sourMoment", inPlace := ["internal/bytealg.IndexByteString", "internal/bytealg.IndexString"], unfollowed := true, recurses := true, named := ["internal/bytealg.MaxLen"], apart := false }
def SourMomentSaid : Prop := sourMomentRow.holds Try.pinned (OpenSpec.ofChange sourMomentSpec)

/-- ITS FALSE NEIGHBOUR: 'it returns false'. Refute it at one input. -/
def sourMomentWrong : ChangeSpec := { name := "sourMoment", fn := fun _ => fun
  | [d1, d2] => { results := [.lit (.bool false)], args := [d1, d2] }
  | _ => none }
def SourMomentWrongFalsely : Prop := sourMomentRow.holds Try.pinned (OpenSpec.ofChange sourMomentWrong)

/-- 'fettlelaw15.SourMisses': WHATEVER THE INPUT: true; the input reads as it did. -/
def sourMissesSpec : ChangeSpec := { name := "sourMisses", fn := fun _ => fun
  | [d] => { results := [.lit (.bool true)], args := [d] }
  | _ => none }
def sourMissesRow : OpenClaim := { program := "ytpacolplhcfamaa", sum := "646fdc8999fa2ad3d0de3e0dd0626cdebd9ecacce0ffb457fcd7b4751c0e759b", func := "fettle/fettlelaw15.SourMisses", spec := "sourMisses", inPlace := ["internal/bytealg.IndexByteString", "internal/bytealg.IndexString"], unfollowed := true, recurses := true, named := ["internal/bytealg.MaxLen"], apart := false }
def SourMissesSaid : Prop := sourMissesRow.holds Try.pinned (OpenSpec.ofChange sourMissesSpec)

/-- ITS FALSE NEIGHBOUR: 'it returns false'. Refute it at one input. -/
def sourMissesWrong : ChangeSpec := { name := "sourMisses", fn := fun _ => fun
  | [d] => { results := [.lit (.bool false)], args := [d] }
  | _ => none }
def SourMissesWrongFalsely : Prop := sourMissesRow.holds Try.pinned (OpenSpec.ofChange sourMissesWrong)

/-- 'fettlelaw25.HistParts': WHATEVER THE INPUT: true; the input reads as it did. -/
def histPartsSpec : ChangeSpec := { name := "histParts", fn := fun _ => fun
  | [d1, d2, d3, d4] => { results := [.lit (.bool true)], args := [d1, d2, d3, d4] }
  | _ => none }
def histPartsRow : OpenClaim := { program := "ytpacolplhcfamaa", sum := "646fdc8999fa2ad3d0de3e0dd0626cdebd9ecacce0ffb457fcd7b4751c0e759b", func := "fettle/fettlelaw25.HistParts", spec := "histParts", inPlace := ["internal/bytealg.MakeNoZero"], unfollowed := true, recurses := true, apart := false }
def HistPartsSaid : Prop := histPartsRow.holds Try.pinned (OpenSpec.ofChange histPartsSpec)

/-- ITS FALSE NEIGHBOUR: 'it returns false'. Refute it at one input. -/
def histPartsWrong : ChangeSpec := { name := "histParts", fn := fun _ => fun
  | [d1, d2, d3, d4] => { results := [.lit (.bool false)], args := [d1, d2, d3, d4] }
  | _ => none }
def HistPartsWrongFalsely : Prop := histPartsRow.holds Try.pinned (OpenSpec.ofChange histPartsWrong)

/-- 'fettlelaw25.HistLast': WHATEVER THE INPUT: true; the input reads as it did. -/
def histLastSpec : ChangeSpec := { name := "histLast", fn := fun _ => fun
  | [d1, d2] => { results := [.lit (.bool true)], args := [d1, d2] }
  | _ => none }
def histLastRow : OpenClaim := { program := "ytpacolplhcfamaa", sum := "646fdc8999fa2ad3d0de3e0dd0626cdebd9ecacce0ffb457fcd7b4751c0e759b", func := "fettle/fettlelaw25.HistLast", spec := "histLast", inPlace := ["internal/bytealg.MakeNoZero"], unfollowed := true, recurses := true, apart := false }
def HistLastSaid : Prop := histLastRow.holds Try.pinned (OpenSpec.ofChange histLastSpec)

/-- ITS FALSE NEIGHBOUR: 'it returns false'. Refute it at one input. -/
def histLastWrong : ChangeSpec := { name := "histLast", fn := fun _ => fun
  | [d1, d2] => { results := [.lit (.bool false)], args := [d1, d2] }
  | _ => none }
def HistLastWrongFalsely : Prop := histLastRow.holds Try.pinned (OpenSpec.ofChange histLastWrong)

/-- 'fettlelaw25.HistTells': WHATEVER THE INPUT: true; the input reads as it did. -/
def histTellsSpec : ChangeSpec := { name := "histTells", fn := fun _ => fun
  | [d1, d2, d3] => { results := [.lit (.bool true)], args := [d1, d2, d3] }
  | _ => none }
def histTellsRow : OpenClaim := { program := "ytpacolplhcfamaa", sum := "646fdc8999fa2ad3d0de3e0dd0626cdebd9ecacce0ffb457fcd7b4751c0e759b", func := "fettle/fettlelaw25.HistTells", spec := "histTells", inPlace := ["internal/bytealg.MakeNoZero"], unfollowed := true, recurses := true, apart := false }
def HistTellsSaid : Prop := histTellsRow.holds Try.pinned (OpenSpec.ofChange histTellsSpec)

/-- ITS FALSE NEIGHBOUR: 'it returns false'. Refute it at one input. -/
def histTellsWrong : ChangeSpec := { name := "histTells", fn := fun _ => fun
  | [d1, d2, d3] => { results := [.lit (.bool false)], args := [d1, d2, d3] }
  | _ => none }
def HistTellsWrongFalsely : Prop := histTellsRow.holds Try.pinned (OpenSpec.ofChange histTellsWrong)

/-- 'fettlelaw16.NeedLater': WHATEVER THE INPUT: true; the input reads as it did. -/
def needLaterSpec : ChangeSpec := { name := "needLater", fn := fun _ => fun
  | [d1, d2, d3] => { results := [.lit (.bool true)], args := [d1, d2, d3] }
  | _ => none }
def needLaterRow : OpenClaim := { program := "ytpacolplhcfamaa", sum := "646fdc8999fa2ad3d0de3e0dd0626cdebd9ecacce0ffb457fcd7b4751c0e759b", func := "fettle/fettlelaw16.NeedLater", spec := "needLater", inPlace := ["internal/bytealg.IndexByteString", "internal/bytealg.IndexString"], unfollowed := true, recurses := true, named := ["internal/bytealg.MaxLen"], apart := false }
def NeedLaterSaid : Prop := needLaterRow.holds Try.pinned (OpenSpec.ofChange needLaterSpec)

/-- ITS FALSE NEIGHBOUR: 'it returns false'. Refute it at one input. -/
def needLaterWrong : ChangeSpec := { name := "needLater", fn := fun _ => fun
  | [d1, d2, d3] => { results := [.lit (.bool false)], args := [d1, d2, d3] }
  | _ => none }
def NeedLaterWrongFalsely : Prop := needLaterRow.holds Try.pinned (OpenSpec.ofChange needLaterWrong)

/-- 'fettlelaw16.NeedOwn': WHATEVER THE INPUT: true; the input reads as it did. -/
def needOwnSpec : ChangeSpec := { name := "needOwn", fn := fun _ => fun
  | [d] => { results := [.lit (.bool true)], args := [d] }
  | _ => none }
def needOwnRow : OpenClaim := { program := "ytpacolplhcfamaa", sum := "646fdc8999fa2ad3d0de3e0dd0626cdebd9ecacce0ffb457fcd7b4751c0e759b", func := "fettle/fettlelaw16.NeedOwn", spec := "needOwn", inPlace := ["internal/bytealg.IndexByteString", "internal/bytealg.IndexString"], unfollowed := true, recurses := true, named := ["internal/bytealg.MaxLen"], apart := false }
def NeedOwnSaid : Prop := needOwnRow.holds Try.pinned (OpenSpec.ofChange needOwnSpec)

/-- ITS FALSE NEIGHBOUR: 'it returns false'. Refute it at one input. -/
def needOwnWrong : ChangeSpec := { name := "needOwn", fn := fun _ => fun
  | [d] => { results := [.lit (.bool false)], args := [d] }
  | _ => none }
def NeedOwnWrongFalsely : Prop := needOwnRow.holds Try.pinned (OpenSpec.ofChange needOwnWrong)

/-- 'fettlelaw16.NeedPhony': WHATEVER THE INPUT: true; the input reads as it did. -/
def needPhonySpec : ChangeSpec := { name := "needPhony", fn := fun _ => fun
  | [d1, d2] => { results := [.lit (.bool true)], args := [d1, d2] }
  | _ => none }
def needPhonyRow : OpenClaim := { program := "ytpacolplhcfamaa", sum := "646fdc8999fa2ad3d0de3e0dd0626cdebd9ecacce0ffb457fcd7b4751c0e759b", func := "fettle/fettlelaw16.NeedPhony", spec := "needPhony", inPlace := ["internal/bytealg.IndexByteString", "internal/bytealg.IndexString"], unfollowed := true, recurses := true, named := ["internal/bytealg.MaxLen"], apart := false }
def NeedPhonySaid : Prop := needPhonyRow.holds Try.pinned (OpenSpec.ofChange needPhonySpec)

/-- ITS FALSE NEIGHBOUR: 'it returns false'. Refute it at one input. -/
def needPhonyWrong : ChangeSpec := { name := "needPhony", fn := fun _ => fun
  | [d1, d2] => { results := [.lit (.bool false)], args := [d1, d2] }
  | _ => none }
def NeedPhonyWrongFalsely : Prop := needPhonyRow.holds Try.pinned (OpenSpec.ofChange needPhonyWrong)

/-- 'fettlelaw16.NeedTells': WHATEVER THE INPUT: true; the input reads as it did. -/
def needTellsSpec : ChangeSpec := { name := "needTells", fn := fun _ => fun
  | [d1, d2] => { results := [.lit (.bool true)], args := [d1, d2] }
  | _ => none }
def needTellsRow : OpenClaim := { program := "ytpacolplhcfamaa", sum := "646fdc8999fa2ad3d0de3e0dd0626cdebd9ecacce0ffb457fcd7b4751c0e759b", func := "fettle/fettlelaw16.NeedTells", spec := "needTells", inPlace := ["internal/bytealg.IndexByteString", "internal/bytealg.IndexString"], unfollowed := true, recurses := true, named := ["internal/bytealg.MaxLen"], apart := false }
def NeedTellsSaid : Prop := needTellsRow.holds Try.pinned (OpenSpec.ofChange needTellsSpec)

/-- ITS FALSE NEIGHBOUR: 'it returns false'. Refute it at one input. -/
def needTellsWrong : ChangeSpec := { name := "needTells", fn := fun _ => fun
  | [d1, d2] => { results := [.lit (.bool false)], args := [d1, d2] }
  | _ => none }
def NeedTellsWrongFalsely : Prop := needTellsRow.holds Try.pinned (OpenSpec.ofChange needTellsWrong)

/- THE SECOND FORM. 'bulk': how many values and letters a reading holds, each counted each time it is reached (what is shared counts as often as it is met; a slice's spare places count too). A statement '..UptoSaid' is the law's where the arguments, and the package variables that the reading takes, are together of bulk at most 1048576: NARROWER than '..Said'. Prove '..Said' where nothing that the law and all that it calls make is longer than what came in: it says more and counts as full. Else prove '..UptoSaid'. A law counts once. -/
mutual
def uptoBulk {H : Type} : DataW H → Nat
  | .lit (.string bytes) => bytes.length + 1
  | .lit _ => 1
  | .nil => 1
  | .ptr d => uptoBulk d + 1
  | .slice elems spare => uptoBulkAll elems + uptoBulkAll spare + 1
  | .agg parts => uptoBulkAll parts + 1
  | .iface _ d => uptoBulk d + 1
  | .map entries => uptoBulkEntries entries + 1
  | .held _ => 1
def uptoBulkAll {H : Type} : List (DataW H) → Nat
  | [] => 0
  | d :: r => uptoBulk d + uptoBulkAll r
def uptoBulkEntries {H : Type} : List (Lit × DataW H) → Nat
  | [] => 0
  | x :: r => uptoBulkEntry x + uptoBulkEntries r
def uptoBulkEntry {H : Type} : Lit × DataW H → Nat
  | (.string bytes, d) => bytes.length + uptoBulk d + 1
  | (_, d) => uptoBulk d + 1
 end
def uptoSmall : (H : Type) → List (DataW H) → Bool := fun _ ds => decide (uptoBulkAll ds ≤ 1048576)
def OpenSpec.upto (s : _root_.Go.ChangeSpec) : _root_.Go.OpenSpec := { _root_.Go.OpenSpec.ofChange s with cond := some uptoSmall }

/-- 'fettlelaw10.PrntLong', WHERE WHAT IT READS IS OF BULK AT MOST 1048576: true; the input reads as it did. -/
def prntLongUptoRow : OpenClaim := { program := "ytpacolplhcfamaa", sum := "646fdc8999fa2ad3d0de3e0dd0626cdebd9ecacce0ffb457fcd7b4751c0e759b", func := "fettle/fettlelaw10.PrntLong", spec := "prntLong", inPlace := ["internal/bytealg.MakeNoZero"], apart := false, narrowed := true }
def PrntLongUptoSaid : Prop := prntLongUptoRow.holds Try.pinned (OpenSpec.upto prntLongSpec)

/-- 'fettlelaw10.PrntOwn', WHERE WHAT IT READS IS OF BULK AT MOST 1048576: true; the input reads as it did. -/
def prntOwnUptoRow : OpenClaim := { program := "ytpacolplhcfamaa", sum := "646fdc8999fa2ad3d0de3e0dd0626cdebd9ecacce0ffb457fcd7b4751c0e759b", func := "fettle/fettlelaw10.PrntOwn", spec := "prntOwn", inPlace := ["internal/bytealg.MakeNoZero"], apart := false, narrowed := true }
def PrntOwnUptoSaid : Prop := prntOwnUptoRow.holds Try.pinned (OpenSpec.upto prntOwnSpec)

/-- 'fettlelaw10.PrntTells', WHERE WHAT IT READS IS OF BULK AT MOST 1048576: true; the input reads as it did. -/
def prntTellsUptoRow : OpenClaim := { program := "ytpacolplhcfamaa", sum := "646fdc8999fa2ad3d0de3e0dd0626cdebd9ecacce0ffb457fcd7b4751c0e759b", func := "fettle/fettlelaw10.PrntTells", spec := "prntTells", inPlace := ["internal/bytealg.MakeNoZero"], apart := false, narrowed := true }
def PrntTellsUptoSaid : Prop := prntTellsUptoRow.holds Try.pinned (OpenSpec.upto prntTellsSpec)

/-- 'fettlelaw10.PrntApart', WHERE WHAT IT READS IS OF BULK AT MOST 1048576: true; the input reads as it did. -/
def prntApartUptoRow : OpenClaim := { program := "ytpacolplhcfamaa", sum := "646fdc8999fa2ad3d0de3e0dd0626cdebd9ecacce0ffb457fcd7b4751c0e759b", func := "fettle/fettlelaw10.PrntApart", spec := "prntApart", inPlace := ["internal/bytealg.MakeNoZero"], apart := false, narrowed := true }
def PrntApartUptoSaid : Prop := prntApartUptoRow.holds Try.pinned (OpenSpec.upto prntApartSpec)

/-- 'fettlelaw15.SourSteps', WHERE WHAT IT READS IS OF BULK AT MOST 1048576: true; the input reads as it did. -/
def sourStepsUptoRow : OpenClaim := { program := "ytpacolplhcfamaa", sum := "646fdc8999fa2ad3d0de3e0dd0626cdebd9ecacce0ffb457fcd7b4751c0e759b", func := "fettle/fettlelaw15.SourSteps", spec := "sourSteps", inPlace := ["internal/bytealg.IndexByteString", "internal/bytealg.IndexString"], unfollowed := true, recurses := true, named := ["internal/bytealg.MaxLen"], apart := false, narrowed := true }
def SourStepsUptoSaid : Prop := sourStepsUptoRow.holds Try.pinned (OpenSpec.upto sourStepsSpec)

/-- 'fettlelaw15.SourOwn', WHERE WHAT IT READS IS OF BULK AT MOST 1048576: true; the input reads as it did. -/
def sourOwnUptoRow : OpenClaim := { program := "ytpacolplhcfamaa", sum := "646fdc8999fa2ad3d0de3e0dd0626cdebd9ecacce0ffb457fcd7b4751c0e759b", func := "fettle/fettlelaw15.SourOwn", spec := "sourOwn", inPlace := ["internal/bytealg.IndexByteString", "internal/bytealg.IndexString"], unfollowed := true, recurses := true, named := ["internal/bytealg.MaxLen"], apart := false, narrowed := true }
def SourOwnUptoSaid : Prop := sourOwnUptoRow.holds Try.pinned (OpenSpec.upto sourOwnSpec)

/-- 'fettlelaw15.SourMoment', WHERE WHAT IT READS IS OF BULK AT MOST 1048576: true; the input reads as it did. -/
def sourMomentUptoRow : OpenClaim := { program := "ytpacolplhcfamaa", sum := "646fdc8999fa2ad3d0de3e0dd0626cdebd9ecacce0ffb457fcd7b4751c0e759b", func := "fettle/fettlelaw15.SourMoment", spec := "sourMoment", inPlace := ["internal/bytealg.IndexByteString", "internal/bytealg.IndexString"], unfollowed := true, recurses := true, named := ["internal/bytealg.MaxLen"], apart := false, narrowed := true }
def SourMomentUptoSaid : Prop := sourMomentUptoRow.holds Try.pinned (OpenSpec.upto sourMomentSpec)

/-- 'fettlelaw15.SourMisses', WHERE WHAT IT READS IS OF BULK AT MOST 1048576: true; the input reads as it did. -/
def sourMissesUptoRow : OpenClaim := { program := "ytpacolplhcfamaa", sum := "646fdc8999fa2ad3d0de3e0dd0626cdebd9ecacce0ffb457fcd7b4751c0e759b", func := "fettle/fettlelaw15.SourMisses", spec := "sourMisses", inPlace := ["internal/bytealg.IndexByteString", "internal/bytealg.IndexString"], unfollowed := true, recurses := true, named := ["internal/bytealg.MaxLen"], apart := false, narrowed := true }
def SourMissesUptoSaid : Prop := sourMissesUptoRow.holds Try.pinned (OpenSpec.upto sourMissesSpec)

/-- 'fettlelaw25.HistParts', WHERE WHAT IT READS IS OF BULK AT MOST 1048576: true; the input reads as it did. -/
def histPartsUptoRow : OpenClaim := { program := "ytpacolplhcfamaa", sum := "646fdc8999fa2ad3d0de3e0dd0626cdebd9ecacce0ffb457fcd7b4751c0e759b", func := "fettle/fettlelaw25.HistParts", spec := "histParts", inPlace := ["internal/bytealg.MakeNoZero"], unfollowed := true, recurses := true, apart := false, narrowed := true }
def HistPartsUptoSaid : Prop := histPartsUptoRow.holds Try.pinned (OpenSpec.upto histPartsSpec)

/-- 'fettlelaw25.HistLast', WHERE WHAT IT READS IS OF BULK AT MOST 1048576: true; the input reads as it did. -/
def histLastUptoRow : OpenClaim := { program := "ytpacolplhcfamaa", sum := "646fdc8999fa2ad3d0de3e0dd0626cdebd9ecacce0ffb457fcd7b4751c0e759b", func := "fettle/fettlelaw25.HistLast", spec := "histLast", inPlace := ["internal/bytealg.MakeNoZero"], unfollowed := true, recurses := true, apart := false, narrowed := true }
def HistLastUptoSaid : Prop := histLastUptoRow.holds Try.pinned (OpenSpec.upto histLastSpec)

/-- 'fettlelaw25.HistTells', WHERE WHAT IT READS IS OF BULK AT MOST 1048576: true; the input reads as it did. -/
def histTellsUptoRow : OpenClaim := { program := "ytpacolplhcfamaa", sum := "646fdc8999fa2ad3d0de3e0dd0626cdebd9ecacce0ffb457fcd7b4751c0e759b", func := "fettle/fettlelaw25.HistTells", spec := "histTells", inPlace := ["internal/bytealg.MakeNoZero"], unfollowed := true, recurses := true, apart := false, narrowed := true }
def HistTellsUptoSaid : Prop := histTellsUptoRow.holds Try.pinned (OpenSpec.upto histTellsSpec)

/-- 'fettlelaw16.NeedLater', WHERE WHAT IT READS IS OF BULK AT MOST 1048576: true; the input reads as it did. -/
def needLaterUptoRow : OpenClaim := { program := "ytpacolplhcfamaa", sum := "646fdc8999fa2ad3d0de3e0dd0626cdebd9ecacce0ffb457fcd7b4751c0e759b", func := "fettle/fettlelaw16.NeedLater", spec := "needLater", inPlace := ["internal/bytealg.IndexByteString", "internal/bytealg.IndexString"], unfollowed := true, recurses := true, named := ["internal/bytealg.MaxLen"], apart := false, narrowed := true }
def NeedLaterUptoSaid : Prop := needLaterUptoRow.holds Try.pinned (OpenSpec.upto needLaterSpec)

/-- 'fettlelaw16.NeedOwn', WHERE WHAT IT READS IS OF BULK AT MOST 1048576: true; the input reads as it did. -/
def needOwnUptoRow : OpenClaim := { program := "ytpacolplhcfamaa", sum := "646fdc8999fa2ad3d0de3e0dd0626cdebd9ecacce0ffb457fcd7b4751c0e759b", func := "fettle/fettlelaw16.NeedOwn", spec := "needOwn", inPlace := ["internal/bytealg.IndexByteString", "internal/bytealg.IndexString"], unfollowed := true, recurses := true, named := ["internal/bytealg.MaxLen"], apart := false, narrowed := true }
def NeedOwnUptoSaid : Prop := needOwnUptoRow.holds Try.pinned (OpenSpec.upto needOwnSpec)

/-- 'fettlelaw16.NeedPhony', WHERE WHAT IT READS IS OF BULK AT MOST 1048576: true; the input reads as it did. -/
def needPhonyUptoRow : OpenClaim := { program := "ytpacolplhcfamaa", sum := "646fdc8999fa2ad3d0de3e0dd0626cdebd9ecacce0ffb457fcd7b4751c0e759b", func := "fettle/fettlelaw16.NeedPhony", spec := "needPhony", inPlace := ["internal/bytealg.IndexByteString", "internal/bytealg.IndexString"], unfollowed := true, recurses := true, named := ["internal/bytealg.MaxLen"], apart := false, narrowed := true }
def NeedPhonyUptoSaid : Prop := needPhonyUptoRow.holds Try.pinned (OpenSpec.upto needPhonySpec)

/-- 'fettlelaw16.NeedTells', WHERE WHAT IT READS IS OF BULK AT MOST 1048576: true; the input reads as it did. -/
def needTellsUptoRow : OpenClaim := { program := "ytpacolplhcfamaa", sum := "646fdc8999fa2ad3d0de3e0dd0626cdebd9ecacce0ffb457fcd7b4751c0e759b", func := "fettle/fettlelaw16.NeedTells", spec := "needTells", inPlace := ["internal/bytealg.IndexByteString", "internal/bytealg.IndexString"], unfollowed := true, recurses := true, named := ["internal/bytealg.MaxLen"], apart := false, narrowed := true }
def NeedTellsUptoSaid : Prop := needTellsUptoRow.holds Try.pinned (OpenSpec.upto needTellsSpec)

end Rows
end Go.Proofs.Ytpacolplhcfamaa
