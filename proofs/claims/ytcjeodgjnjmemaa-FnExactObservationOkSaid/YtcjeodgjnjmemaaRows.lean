/-
  No cell of these rows narrows 'for every input' (looked for: loops, veiled, ifaces, maps, wideKeys, modest, calm, conditions, laid).
  DERIVED. THE GIVEN ROWS OF THIS SEAT. 12 by the template 'for every input the law returns true; each argument reads behind the call as it read before'; 0 by the template 'total and deterministic' (their statements: YtcjeodgjnjmemaaTotals.lean).
  GIVEN WITH THE SEED: the statements are not yours to turn. If you find one false, say at which input.
  Laid BY PROGRAM, IN A SANDBOX (cutbox-rows.mjs): the forced cells as the released guide's own fill.sh prints them over the translation af3e07ed8c7d269d… (all of the seat's roots in one cut). By AI agents, Wed Nov 11 2026. No macro, syntax, notation, axiom, sorry.
-/
import Derived.Test.YtcjeodgjnjmemaaChecked
import GoSem.Claim
import GoSem.ClaimJoined
import GoSem.ClaimMapViews
import Derived.JoinedTies
import Derived.KernelRfl
namespace Go.Proofs.Ytcjeodgjnjmemaa
/- THE CELL 'sum', in the pinned program and in every row, IS THE sha256 OF THE DUMP (.gsa) THAT YtcjeodgjnjmemaaProg.lean LOADS. Nothing in Lean hashes anything: it is a label: what it is worth is what the hold of that sum in a sandbox is worth. -/
noncomputable def Try.pinned : Pinned := { name := "ytcjeodgjnjmemaa", sum := "af3e07ed8c7d269d3594500e1bd54690eb127cce0231d7e3673843b64f0f7205", checked := Try.checked }
namespace Rows
def none {H : Type} : Left H := { results := [], args := [] }

/-- 'laws.FnExactTranspose': WHATEVER THE INPUT: true; the input reads as it did. -/
def fnExactTransposeSpec : ChangeSpec := { name := "fnExactTranspose", fn := fun _ => fun
  | [d] => { results := [.lit (.bool true)], args := [d] }
  | _ => none }
def fnExactTransposeRow : OpenClaim := { program := "ytcjeodgjnjmemaa", sum := "af3e07ed8c7d269d3594500e1bd54690eb127cce0231d7e3673843b64f0f7205", func := "loop.example/g00822/laws.FnExactTranspose", spec := "fnExactTranspose", unfollowed := true, recurses := true, apart := false }
def FnExactTransposeSaid : Prop := fnExactTransposeRow.holds Try.pinned (OpenSpec.ofChange fnExactTransposeSpec)

/-- ITS FALSE NEIGHBOUR: 'it returns false'. Refute it at one input. -/
def fnExactTransposeWrong : ChangeSpec := { name := "fnExactTranspose", fn := fun _ => fun
  | [d] => { results := [.lit (.bool false)], args := [d] }
  | _ => none }
def FnExactTransposeWrongFalsely : Prop := fnExactTransposeRow.holds Try.pinned (OpenSpec.ofChange fnExactTransposeWrong)

/-- 'laws.FnDirections': WHATEVER THE INPUT: true; the input reads as it did. -/
def fnDirectionsSpec : ChangeSpec := { name := "fnDirections", fn := fun _ => fun
  | [d] => { results := [.lit (.bool true)], args := [d] }
  | _ => none }
def fnDirectionsRow : OpenClaim := { program := "ytcjeodgjnjmemaa", sum := "af3e07ed8c7d269d3594500e1bd54690eb127cce0231d7e3673843b64f0f7205", func := "loop.example/g00822/laws.FnDirections", spec := "fnDirections", apart := false }
def FnDirectionsSaid : Prop := fnDirectionsRow.holds Try.pinned (OpenSpec.ofChange fnDirectionsSpec)

/-- ITS FALSE NEIGHBOUR: 'it returns false'. Refute it at one input. -/
def fnDirectionsWrong : ChangeSpec := { name := "fnDirections", fn := fun _ => fun
  | [d] => { results := [.lit (.bool false)], args := [d] }
  | _ => none }
def FnDirectionsWrongFalsely : Prop := fnDirectionsRow.holds Try.pinned (OpenSpec.ofChange fnDirectionsWrong)

/-- 'laws.FnExactSubmatrix': WHATEVER THE INPUT: true; the input reads as it did. -/
def fnExactSubmatrixSpec : ChangeSpec := { name := "fnExactSubmatrix", fn := fun _ => fun
  | [d1, d2] => { results := [.lit (.bool true)], args := [d1, d2] }
  | _ => none }
def fnExactSubmatrixRow : OpenClaim := { program := "ytcjeodgjnjmemaa", sum := "af3e07ed8c7d269d3594500e1bd54690eb127cce0231d7e3673843b64f0f7205", func := "loop.example/g00822/laws.FnExactSubmatrix", spec := "fnExactSubmatrix", unfollowed := true, recurses := true, apart := false }
def FnExactSubmatrixSaid : Prop := fnExactSubmatrixRow.holds Try.pinned (OpenSpec.ofChange fnExactSubmatrixSpec)

/-- ITS FALSE NEIGHBOUR: 'it returns false'. Refute it at one input. -/
def fnExactSubmatrixWrong : ChangeSpec := { name := "fnExactSubmatrix", fn := fun _ => fun
  | [d1, d2] => { results := [.lit (.bool false)], args := [d1, d2] }
  | _ => none }
def FnExactSubmatrixWrongFalsely : Prop := fnExactSubmatrixRow.holds Try.pinned (OpenSpec.ofChange fnExactSubmatrixWrong)

/-- 'laws.FnExactCountUnknowns': WHATEVER THE INPUT: true; the input reads as it did. -/
def fnExactCountUnknownsSpec : ChangeSpec := { name := "fnExactCountUnknowns", fn := fun _ => fun
  | [d] => { results := [.lit (.bool true)], args := [d] }
  | _ => none }
def fnExactCountUnknownsRow : OpenClaim := { program := "ytcjeodgjnjmemaa", sum := "af3e07ed8c7d269d3594500e1bd54690eb127cce0231d7e3673843b64f0f7205", func := "loop.example/g00822/laws.FnExactCountUnknowns", spec := "fnExactCountUnknowns", apart := false }
def FnExactCountUnknownsSaid : Prop := fnExactCountUnknownsRow.holds Try.pinned (OpenSpec.ofChange fnExactCountUnknownsSpec)

/-- ITS FALSE NEIGHBOUR: 'it returns false'. Refute it at one input. -/
def fnExactCountUnknownsWrong : ChangeSpec := { name := "fnExactCountUnknowns", fn := fun _ => fun
  | [d] => { results := [.lit (.bool false)], args := [d] }
  | _ => none }
def FnExactCountUnknownsWrongFalsely : Prop := fnExactCountUnknownsRow.holds Try.pinned (OpenSpec.ofChange fnExactCountUnknownsWrong)

/-- 'laws.FnRounded': WHATEVER THE INPUT: true; the input reads as it did. -/
def fnRoundedSpec : ChangeSpec := { name := "fnRounded", fn := fun _ => fun
  | [d] => { results := [.lit (.bool true)], args := [d] }
  | _ => none }
def fnRoundedRow : OpenClaim := { program := "ytcjeodgjnjmemaa", sum := "af3e07ed8c7d269d3594500e1bd54690eb127cce0231d7e3673843b64f0f7205", func := "loop.example/g00822/laws.FnRounded", spec := "fnRounded", apart := false }
def FnRoundedSaid : Prop := fnRoundedRow.holds Try.pinned (OpenSpec.ofChange fnRoundedSpec)

/-- ITS FALSE NEIGHBOUR: 'it returns false'. Refute it at one input. -/
def fnRoundedWrong : ChangeSpec := { name := "fnRounded", fn := fun _ => fun
  | [d] => { results := [.lit (.bool false)], args := [d] }
  | _ => none }
def FnRoundedWrongFalsely : Prop := fnRoundedRow.holds Try.pinned (OpenSpec.ofChange fnRoundedWrong)

/-- 'laws.FnExactUnknownOf': WHATEVER THE INPUT: true; the input reads as it did. -/
def fnExactUnknownOfSpec : ChangeSpec := { name := "fnExactUnknownOf", fn := fun _ => fun
  | [d1, d2] => { results := [.lit (.bool true)], args := [d1, d2] }
  | _ => none }
def fnExactUnknownOfRow : OpenClaim := { program := "ytcjeodgjnjmemaa", sum := "af3e07ed8c7d269d3594500e1bd54690eb127cce0231d7e3673843b64f0f7205", func := "loop.example/g00822/laws.FnExactUnknownOf", spec := "fnExactUnknownOf", apart := false }
def FnExactUnknownOfSaid : Prop := fnExactUnknownOfRow.holds Try.pinned (OpenSpec.ofChange fnExactUnknownOfSpec)

/-- ITS FALSE NEIGHBOUR: 'it returns false'. Refute it at one input. -/
def fnExactUnknownOfWrong : ChangeSpec := { name := "fnExactUnknownOf", fn := fun _ => fun
  | [d1, d2] => { results := [.lit (.bool false)], args := [d1, d2] }
  | _ => none }
def FnExactUnknownOfWrongFalsely : Prop := fnExactUnknownOfRow.holds Try.pinned (OpenSpec.ofChange fnExactUnknownOfWrong)

/-- 'laws.FnExactNameOfUnknown': WHATEVER THE INPUT: true; the input reads as it did. -/
def fnExactNameOfUnknownSpec : ChangeSpec := { name := "fnExactNameOfUnknown", fn := fun _ => fun
  | [d1, d2] => { results := [.lit (.bool true)], args := [d1, d2] }
  | _ => none }
def fnExactNameOfUnknownRow : OpenClaim := { program := "ytcjeodgjnjmemaa", sum := "af3e07ed8c7d269d3594500e1bd54690eb127cce0231d7e3673843b64f0f7205", func := "loop.example/g00822/laws.FnExactNameOfUnknown", spec := "fnExactNameOfUnknown", apart := false }
def FnExactNameOfUnknownSaid : Prop := fnExactNameOfUnknownRow.holds Try.pinned (OpenSpec.ofChange fnExactNameOfUnknownSpec)

/-- ITS FALSE NEIGHBOUR: 'it returns false'. Refute it at one input. -/
def fnExactNameOfUnknownWrong : ChangeSpec := { name := "fnExactNameOfUnknown", fn := fun _ => fun
  | [d1, d2] => { results := [.lit (.bool false)], args := [d1, d2] }
  | _ => none }
def FnExactNameOfUnknownWrongFalsely : Prop := fnExactNameOfUnknownRow.holds Try.pinned (OpenSpec.ofChange fnExactNameOfUnknownWrong)

/-- 'laws.FnExactRootBelow': WHATEVER THE INPUT: true; the input reads as it did. -/
def fnExactRootBelowSpec : ChangeSpec := { name := "fnExactRootBelow", fn := fun _ => fun
  | [d] => { results := [.lit (.bool true)], args := [d] }
  | _ => none }
def fnExactRootBelowRow : OpenClaim := { program := "ytcjeodgjnjmemaa", sum := "af3e07ed8c7d269d3594500e1bd54690eb127cce0231d7e3673843b64f0f7205", func := "loop.example/g00822/laws.FnExactRootBelow", spec := "fnExactRootBelow", apart := false }
def FnExactRootBelowSaid : Prop := fnExactRootBelowRow.holds Try.pinned (OpenSpec.ofChange fnExactRootBelowSpec)

/-- ITS FALSE NEIGHBOUR: 'it returns false'. Refute it at one input. -/
def fnExactRootBelowWrong : ChangeSpec := { name := "fnExactRootBelow", fn := fun _ => fun
  | [d] => { results := [.lit (.bool false)], args := [d] }
  | _ => none }
def FnExactRootBelowWrongFalsely : Prop := fnExactRootBelowRow.holds Try.pinned (OpenSpec.ofChange fnExactRootBelowWrong)

/-- 'laws.FnExactObservationOk': WHATEVER THE INPUT: true; the input reads as it did. -/
def fnExactObservationOkSpec : ChangeSpec := { name := "fnExactObservationOk", fn := fun _ => fun
  | [d1, d2] => { results := [.lit (.bool true)], args := [d1, d2] }
  | _ => none }
def fnExactObservationOkRow : OpenClaim := { program := "ytcjeodgjnjmemaa", sum := "af3e07ed8c7d269d3594500e1bd54690eb127cce0231d7e3673843b64f0f7205", func := "loop.example/g00822/laws.FnExactObservationOk", spec := "fnExactObservationOk", apart := false }
def FnExactObservationOkSaid : Prop := fnExactObservationOkRow.holds Try.pinned (OpenSpec.ofChange fnExactObservationOkSpec)

/-- ITS FALSE NEIGHBOUR: 'it returns false'. Refute it at one input. -/
def fnExactObservationOkWrong : ChangeSpec := { name := "fnExactObservationOk", fn := fun _ => fun
  | [d1, d2] => { results := [.lit (.bool false)], args := [d1, d2] }
  | _ => none }
def FnExactObservationOkWrongFalsely : Prop := fnExactObservationOkRow.holds Try.pinned (OpenSpec.ofChange fnExactObservationOkWrong)

/-- 'laws.FnExactCorrectReading': WHATEVER THE INPUT: true; the input reads as it did. -/
def fnExactCorrectReadingSpec : ChangeSpec := { name := "fnExactCorrectReading", fn := fun _ => fun
  | [d1, d2, d3] => { results := [.lit (.bool true)], args := [d1, d2, d3] }
  | _ => none }
def fnExactCorrectReadingRow : OpenClaim := { program := "ytcjeodgjnjmemaa", sum := "af3e07ed8c7d269d3594500e1bd54690eb127cce0231d7e3673843b64f0f7205", func := "loop.example/g00822/laws.FnExactCorrectReading", spec := "fnExactCorrectReading", apart := false }
def FnExactCorrectReadingSaid : Prop := fnExactCorrectReadingRow.holds Try.pinned (OpenSpec.ofChange fnExactCorrectReadingSpec)

/-- ITS FALSE NEIGHBOUR: 'it returns false'. Refute it at one input. -/
def fnExactCorrectReadingWrong : ChangeSpec := { name := "fnExactCorrectReading", fn := fun _ => fun
  | [d1, d2, d3] => { results := [.lit (.bool false)], args := [d1, d2, d3] }
  | _ => none }
def FnExactCorrectReadingWrongFalsely : Prop := fnExactCorrectReadingRow.holds Try.pinned (OpenSpec.ofChange fnExactCorrectReadingWrong)

/-- 'laws.FnMatrices': WHATEVER THE INPUT: true; the input reads as it did. -/
def fnMatricesSpec : ChangeSpec := { name := "fnMatrices", fn := fun _ => fun
  | [d] => { results := [.lit (.bool true)], args := [d] }
  | _ => none }
def fnMatricesRow : OpenClaim := { program := "ytcjeodgjnjmemaa", sum := "af3e07ed8c7d269d3594500e1bd54690eb127cce0231d7e3673843b64f0f7205", func := "loop.example/g00822/laws.FnMatrices", spec := "fnMatrices", unfollowed := true, recurses := true, apart := false }
def FnMatricesSaid : Prop := fnMatricesRow.holds Try.pinned (OpenSpec.ofChange fnMatricesSpec)

/-- ITS FALSE NEIGHBOUR: 'it returns false'. Refute it at one input. -/
def fnMatricesWrong : ChangeSpec := { name := "fnMatrices", fn := fun _ => fun
  | [d] => { results := [.lit (.bool false)], args := [d] }
  | _ => none }
def FnMatricesWrongFalsely : Prop := fnMatricesRow.holds Try.pinned (OpenSpec.ofChange fnMatricesWrong)

/-- 'laws.FnExactRoundTo': WHATEVER THE INPUT: true; the input reads as it did. -/
def fnExactRoundToSpec : ChangeSpec := { name := "fnExactRoundTo", fn := fun _ => fun
  | [d1, d2] => { results := [.lit (.bool true)], args := [d1, d2] }
  | _ => none }
def fnExactRoundToRow : OpenClaim := { program := "ytcjeodgjnjmemaa", sum := "af3e07ed8c7d269d3594500e1bd54690eb127cce0231d7e3673843b64f0f7205", func := "loop.example/g00822/laws.FnExactRoundTo", spec := "fnExactRoundTo", apart := false }
def FnExactRoundToSaid : Prop := fnExactRoundToRow.holds Try.pinned (OpenSpec.ofChange fnExactRoundToSpec)

/-- ITS FALSE NEIGHBOUR: 'it returns false'. Refute it at one input. -/
def fnExactRoundToWrong : ChangeSpec := { name := "fnExactRoundTo", fn := fun _ => fun
  | [d1, d2] => { results := [.lit (.bool false)], args := [d1, d2] }
  | _ => none }
def FnExactRoundToWrongFalsely : Prop := fnExactRoundToRow.holds Try.pinned (OpenSpec.ofChange fnExactRoundToWrong)

/- THE SECOND FORM. 'bulk': how many values and letters a reading holds, each counted each time it is reached (what is shared counts as often as it is met; a slice's spare places count too). A statement '..UptoSaid' is the law's where the arguments, and the package variables that the reading takes, are together of bulk at most 1048576: NARROWER than '..Said'. Prove '..Said' where nothing that the law and all that it calls make is longer than what came in: it says more and counts as full. Else prove '..UptoSaid'. A law counts once. -/
mutual
def uptoBulk {H : Type} : DataW H → Nat
  | .lit (.string bytes) => bytes.length + 1
  | .lit _ => 1
  | .nil => 1
  | .ptr d => uptoBulk d + 1
  | .slice elems spare => uptoBulkAll elems + uptoBulkAll spare + 1
  | .agg parts => uptoBulkAll parts + 1
  | .iface _ d => uptoBulk d + 1
  | .map entries => uptoBulkEntries entries + 1
  | .held _ => 1
def uptoBulkAll {H : Type} : List (DataW H) → Nat
  | [] => 0
  | d :: r => uptoBulk d + uptoBulkAll r
def uptoBulkEntries {H : Type} : List (Lit × DataW H) → Nat
  | [] => 0
  | x :: r => uptoBulkEntry x + uptoBulkEntries r
def uptoBulkEntry {H : Type} : Lit × DataW H → Nat
  | (.string bytes, d) => bytes.length + uptoBulk d + 1
  | (_, d) => uptoBulk d + 1
 end
def uptoSmall : (H : Type) → List (DataW H) → Bool := fun _ ds => decide (uptoBulkAll ds ≤ 1048576)
def OpenSpec.upto (s : _root_.Go.ChangeSpec) : _root_.Go.OpenSpec := { _root_.Go.OpenSpec.ofChange s with cond := some uptoSmall }

/-- 'laws.FnExactTranspose', WHERE WHAT IT READS IS OF BULK AT MOST 1048576: true; the input reads as it did. -/
def fnExactTransposeUptoRow : OpenClaim := { program := "ytcjeodgjnjmemaa", sum := "af3e07ed8c7d269d3594500e1bd54690eb127cce0231d7e3673843b64f0f7205", func := "loop.example/g00822/laws.FnExactTranspose", spec := "fnExactTranspose", unfollowed := true, recurses := true, apart := false, narrowed := true }
def FnExactTransposeUptoSaid : Prop := fnExactTransposeUptoRow.holds Try.pinned (OpenSpec.upto fnExactTransposeSpec)

/-- 'laws.FnDirections', WHERE WHAT IT READS IS OF BULK AT MOST 1048576: true; the input reads as it did. -/
def fnDirectionsUptoRow : OpenClaim := { program := "ytcjeodgjnjmemaa", sum := "af3e07ed8c7d269d3594500e1bd54690eb127cce0231d7e3673843b64f0f7205", func := "loop.example/g00822/laws.FnDirections", spec := "fnDirections", apart := false, narrowed := true }
def FnDirectionsUptoSaid : Prop := fnDirectionsUptoRow.holds Try.pinned (OpenSpec.upto fnDirectionsSpec)

/-- 'laws.FnExactSubmatrix', WHERE WHAT IT READS IS OF BULK AT MOST 1048576: true; the input reads as it did. -/
def fnExactSubmatrixUptoRow : OpenClaim := { program := "ytcjeodgjnjmemaa", sum := "af3e07ed8c7d269d3594500e1bd54690eb127cce0231d7e3673843b64f0f7205", func := "loop.example/g00822/laws.FnExactSubmatrix", spec := "fnExactSubmatrix", unfollowed := true, recurses := true, apart := false, narrowed := true }
def FnExactSubmatrixUptoSaid : Prop := fnExactSubmatrixUptoRow.holds Try.pinned (OpenSpec.upto fnExactSubmatrixSpec)

/-- 'laws.FnExactCountUnknowns', WHERE WHAT IT READS IS OF BULK AT MOST 1048576: true; the input reads as it did. -/
def fnExactCountUnknownsUptoRow : OpenClaim := { program := "ytcjeodgjnjmemaa", sum := "af3e07ed8c7d269d3594500e1bd54690eb127cce0231d7e3673843b64f0f7205", func := "loop.example/g00822/laws.FnExactCountUnknowns", spec := "fnExactCountUnknowns", apart := false, narrowed := true }
def FnExactCountUnknownsUptoSaid : Prop := fnExactCountUnknownsUptoRow.holds Try.pinned (OpenSpec.upto fnExactCountUnknownsSpec)

/-- 'laws.FnRounded', WHERE WHAT IT READS IS OF BULK AT MOST 1048576: true; the input reads as it did. -/
def fnRoundedUptoRow : OpenClaim := { program := "ytcjeodgjnjmemaa", sum := "af3e07ed8c7d269d3594500e1bd54690eb127cce0231d7e3673843b64f0f7205", func := "loop.example/g00822/laws.FnRounded", spec := "fnRounded", apart := false, narrowed := true }
def FnRoundedUptoSaid : Prop := fnRoundedUptoRow.holds Try.pinned (OpenSpec.upto fnRoundedSpec)

/-- 'laws.FnExactUnknownOf', WHERE WHAT IT READS IS OF BULK AT MOST 1048576: true; the input reads as it did. -/
def fnExactUnknownOfUptoRow : OpenClaim := { program := "ytcjeodgjnjmemaa", sum := "af3e07ed8c7d269d3594500e1bd54690eb127cce0231d7e3673843b64f0f7205", func := "loop.example/g00822/laws.FnExactUnknownOf", spec := "fnExactUnknownOf", apart := false, narrowed := true }
def FnExactUnknownOfUptoSaid : Prop := fnExactUnknownOfUptoRow.holds Try.pinned (OpenSpec.upto fnExactUnknownOfSpec)

/-- 'laws.FnExactNameOfUnknown', WHERE WHAT IT READS IS OF BULK AT MOST 1048576: true; the input reads as it did. -/
def fnExactNameOfUnknownUptoRow : OpenClaim := { program := "ytcjeodgjnjmemaa", sum := "af3e07ed8c7d269d3594500e1bd54690eb127cce0231d7e3673843b64f0f7205", func := "loop.example/g00822/laws.FnExactNameOfUnknown", spec := "fnExactNameOfUnknown", apart := false, narrowed := true }
def FnExactNameOfUnknownUptoSaid : Prop := fnExactNameOfUnknownUptoRow.holds Try.pinned (OpenSpec.upto fnExactNameOfUnknownSpec)

/-- 'laws.FnExactRootBelow', WHERE WHAT IT READS IS OF BULK AT MOST 1048576: true; the input reads as it did. -/
def fnExactRootBelowUptoRow : OpenClaim := { program := "ytcjeodgjnjmemaa", sum := "af3e07ed8c7d269d3594500e1bd54690eb127cce0231d7e3673843b64f0f7205", func := "loop.example/g00822/laws.FnExactRootBelow", spec := "fnExactRootBelow", apart := false, narrowed := true }
def FnExactRootBelowUptoSaid : Prop := fnExactRootBelowUptoRow.holds Try.pinned (OpenSpec.upto fnExactRootBelowSpec)

/-- 'laws.FnExactObservationOk', WHERE WHAT IT READS IS OF BULK AT MOST 1048576: true; the input reads as it did. -/
def fnExactObservationOkUptoRow : OpenClaim := { program := "ytcjeodgjnjmemaa", sum := "af3e07ed8c7d269d3594500e1bd54690eb127cce0231d7e3673843b64f0f7205", func := "loop.example/g00822/laws.FnExactObservationOk", spec := "fnExactObservationOk", apart := false, narrowed := true }
def FnExactObservationOkUptoSaid : Prop := fnExactObservationOkUptoRow.holds Try.pinned (OpenSpec.upto fnExactObservationOkSpec)

/-- 'laws.FnExactCorrectReading', WHERE WHAT IT READS IS OF BULK AT MOST 1048576: true; the input reads as it did. -/
def fnExactCorrectReadingUptoRow : OpenClaim := { program := "ytcjeodgjnjmemaa", sum := "af3e07ed8c7d269d3594500e1bd54690eb127cce0231d7e3673843b64f0f7205", func := "loop.example/g00822/laws.FnExactCorrectReading", spec := "fnExactCorrectReading", apart := false, narrowed := true }
def FnExactCorrectReadingUptoSaid : Prop := fnExactCorrectReadingUptoRow.holds Try.pinned (OpenSpec.upto fnExactCorrectReadingSpec)

/-- 'laws.FnMatrices', WHERE WHAT IT READS IS OF BULK AT MOST 1048576: true; the input reads as it did. -/
def fnMatricesUptoRow : OpenClaim := { program := "ytcjeodgjnjmemaa", sum := "af3e07ed8c7d269d3594500e1bd54690eb127cce0231d7e3673843b64f0f7205", func := "loop.example/g00822/laws.FnMatrices", spec := "fnMatrices", unfollowed := true, recurses := true, apart := false, narrowed := true }
def FnMatricesUptoSaid : Prop := fnMatricesUptoRow.holds Try.pinned (OpenSpec.upto fnMatricesSpec)

/-- 'laws.FnExactRoundTo', WHERE WHAT IT READS IS OF BULK AT MOST 1048576: true; the input reads as it did. -/
def fnExactRoundToUptoRow : OpenClaim := { program := "ytcjeodgjnjmemaa", sum := "af3e07ed8c7d269d3594500e1bd54690eb127cce0231d7e3673843b64f0f7205", func := "loop.example/g00822/laws.FnExactRoundTo", spec := "fnExactRoundTo", apart := false, narrowed := true }
def FnExactRoundToUptoSaid : Prop := fnExactRoundToUptoRow.holds Try.pinned (OpenSpec.upto fnExactRoundToSpec)

end Rows
end Go.Proofs.Ytcjeodgjnjmemaa
