/-
  No cell of these rows narrows 'for every input' (looked for: loops, veiled, ifaces, maps, wideKeys, modest, calm, conditions, laid).
  DERIVED. THE GIVEN ROWS OF THIS SEAT. 10 by the template 'for every input the law returns true; each argument reads behind the call as it read before'; 0 by the template 'total and deterministic' (their statements: YtkjfphfbpocijaaTotals.lean).
  GIVEN WITH THE SEED: the statements are not yours to turn. If you find one false, say at which input.
  Laid BY PROGRAM, IN A SANDBOX (cutbox-rows.mjs): the forced cells as the released guide's own fill.sh prints them over the translation f6ec497bd6a51c9e… (all of the seat's roots in one cut). By AI agents, Wed Nov 11 2026. No macro, syntax, notation, axiom, sorry.
-/
import Derived.Test.YtkjfphfbpocijaaChecked
import GoSem.Claim
import GoSem.ClaimJoined
import GoSem.ClaimMapViews
import Derived.JoinedTies
import Derived.KernelRfl
namespace Go.Proofs.Ytkjfphfbpocijaa
/- THE CELL 'sum', in the pinned program and in every row, IS THE sha256 OF THE DUMP (.gsa) THAT YtkjfphfbpocijaaProg.lean LOADS. Nothing in Lean hashes anything: it is a label: what it is worth is what the hold of that sum in a sandbox is worth. -/
noncomputable def Try.pinned : Pinned := { name := "ytkjfphfbpocijaa", sum := "f6ec497bd6a51c9eae2c5bf48142d94814d0b78827932724aa553186245803e6", checked := Try.checked }
namespace Rows
def none {H : Type} : Left H := { results := [], args := [] }

/-- 'laws.FnExactWithoutObservations': WHATEVER THE INPUT: true; the input reads as it did. -/
def fnExactWithoutObservationsSpec : ChangeSpec := { name := "fnExactWithoutObservations", fn := fun _ => fun
  | [d1, d2] => { results := [.lit (.bool true)], args := [d1, d2] }
  | _ => none }
def fnExactWithoutObservationsRow : OpenClaim := { program := "ytkjfphfbpocijaa", sum := "f6ec497bd6a51c9eae2c5bf48142d94814d0b78827932724aa553186245803e6", func := "loop.example/g00822/laws.FnExactWithoutObservations", spec := "fnExactWithoutObservations", apart := false }
def FnExactWithoutObservationsSaid : Prop := fnExactWithoutObservationsRow.holds Try.pinned (OpenSpec.ofChange fnExactWithoutObservationsSpec)

/-- ITS FALSE NEIGHBOUR: 'it returns false'. Refute it at one input. -/
def fnExactWithoutObservationsWrong : ChangeSpec := { name := "fnExactWithoutObservations", fn := fun _ => fun
  | [d1, d2] => { results := [.lit (.bool false)], args := [d1, d2] }
  | _ => none }
def FnExactWithoutObservationsWrongFalsely : Prop := fnExactWithoutObservationsRow.holds Try.pinned (OpenSpec.ofChange fnExactWithoutObservationsWrong)

/-- 'laws.FnExactMatrixOf': WHATEVER THE INPUT: true; the input reads as it did. -/
def fnExactMatrixOfSpec : ChangeSpec := { name := "fnExactMatrixOf", fn := fun _ => fun
  | [d1, d2, d3] => { results := [.lit (.bool true)], args := [d1, d2, d3] }
  | _ => none }
def fnExactMatrixOfRow : OpenClaim := { program := "ytkjfphfbpocijaa", sum := "f6ec497bd6a51c9eae2c5bf48142d94814d0b78827932724aa553186245803e6", func := "loop.example/g00822/laws.FnExactMatrixOf", spec := "fnExactMatrixOf", apart := false }
def FnExactMatrixOfSaid : Prop := fnExactMatrixOfRow.holds Try.pinned (OpenSpec.ofChange fnExactMatrixOfSpec)

/-- ITS FALSE NEIGHBOUR: 'it returns false'. Refute it at one input. -/
def fnExactMatrixOfWrong : ChangeSpec := { name := "fnExactMatrixOf", fn := fun _ => fun
  | [d1, d2, d3] => { results := [.lit (.bool false)], args := [d1, d2, d3] }
  | _ => none }
def FnExactMatrixOfWrongFalsely : Prop := fnExactMatrixOfRow.holds Try.pinned (OpenSpec.ofChange fnExactMatrixOfWrong)

/-- 'laws.FnExactDiagonalOf': WHATEVER THE INPUT: true; the input reads as it did. -/
def fnExactDiagonalOfSpec : ChangeSpec := { name := "fnExactDiagonalOf", fn := fun _ => fun
  | [d] => { results := [.lit (.bool true)], args := [d] }
  | _ => none }
def fnExactDiagonalOfRow : OpenClaim := { program := "ytkjfphfbpocijaa", sum := "f6ec497bd6a51c9eae2c5bf48142d94814d0b78827932724aa553186245803e6", func := "loop.example/g00822/laws.FnExactDiagonalOf", spec := "fnExactDiagonalOf", apart := false }
def FnExactDiagonalOfSaid : Prop := fnExactDiagonalOfRow.holds Try.pinned (OpenSpec.ofChange fnExactDiagonalOfSpec)

/-- ITS FALSE NEIGHBOUR: 'it returns false'. Refute it at one input. -/
def fnExactDiagonalOfWrong : ChangeSpec := { name := "fnExactDiagonalOf", fn := fun _ => fun
  | [d] => { results := [.lit (.bool false)], args := [d] }
  | _ => none }
def FnExactDiagonalOfWrongFalsely : Prop := fnExactDiagonalOfRow.holds Try.pinned (OpenSpec.ofChange fnExactDiagonalOfWrong)

/-- 'laws.FnExactCellAt': WHATEVER THE INPUT: true; the input reads as it did. -/
def fnExactCellAtSpec : ChangeSpec := { name := "fnExactCellAt", fn := fun _ => fun
  | [d1, d2, d3] => { results := [.lit (.bool true)], args := [d1, d2, d3] }
  | _ => none }
def fnExactCellAtRow : OpenClaim := { program := "ytkjfphfbpocijaa", sum := "f6ec497bd6a51c9eae2c5bf48142d94814d0b78827932724aa553186245803e6", func := "loop.example/g00822/laws.FnExactCellAt", spec := "fnExactCellAt", apart := false }
def FnExactCellAtSaid : Prop := fnExactCellAtRow.holds Try.pinned (OpenSpec.ofChange fnExactCellAtSpec)

/-- ITS FALSE NEIGHBOUR: 'it returns false'. Refute it at one input. -/
def fnExactCellAtWrong : ChangeSpec := { name := "fnExactCellAt", fn := fun _ => fun
  | [d1, d2, d3] => { results := [.lit (.bool false)], args := [d1, d2, d3] }
  | _ => none }
def FnExactCellAtWrongFalsely : Prop := fnExactCellAtRow.holds Try.pinned (OpenSpec.ofChange fnExactCellAtWrong)

/-- 'laws.FnExactRowOf': WHATEVER THE INPUT: true; the input reads as it did. -/
def fnExactRowOfSpec : ChangeSpec := { name := "fnExactRowOf", fn := fun _ => fun
  | [d1, d2] => { results := [.lit (.bool true)], args := [d1, d2] }
  | _ => none }
def fnExactRowOfRow : OpenClaim := { program := "ytkjfphfbpocijaa", sum := "f6ec497bd6a51c9eae2c5bf48142d94814d0b78827932724aa553186245803e6", func := "loop.example/g00822/laws.FnExactRowOf", spec := "fnExactRowOf", apart := false }
def FnExactRowOfSaid : Prop := fnExactRowOfRow.holds Try.pinned (OpenSpec.ofChange fnExactRowOfSpec)

/-- ITS FALSE NEIGHBOUR: 'it returns false'. Refute it at one input. -/
def fnExactRowOfWrong : ChangeSpec := { name := "fnExactRowOf", fn := fun _ => fun
  | [d1, d2] => { results := [.lit (.bool false)], args := [d1, d2] }
  | _ => none }
def FnExactRowOfWrongFalsely : Prop := fnExactRowOfRow.holds Try.pinned (OpenSpec.ofChange fnExactRowOfWrong)

/-- 'laws.FnExactTraceOf': WHATEVER THE INPUT: true; the input reads as it did. -/
def fnExactTraceOfSpec : ChangeSpec := { name := "fnExactTraceOf", fn := fun _ => fun
  | [d] => { results := [.lit (.bool true)], args := [d] }
  | _ => none }
def fnExactTraceOfRow : OpenClaim := { program := "ytkjfphfbpocijaa", sum := "f6ec497bd6a51c9eae2c5bf48142d94814d0b78827932724aa553186245803e6", func := "loop.example/g00822/laws.FnExactTraceOf", spec := "fnExactTraceOf", apart := false }
def FnExactTraceOfSaid : Prop := fnExactTraceOfRow.holds Try.pinned (OpenSpec.ofChange fnExactTraceOfSpec)

/-- ITS FALSE NEIGHBOUR: 'it returns false'. Refute it at one input. -/
def fnExactTraceOfWrong : ChangeSpec := { name := "fnExactTraceOf", fn := fun _ => fun
  | [d] => { results := [.lit (.bool false)], args := [d] }
  | _ => none }
def FnExactTraceOfWrongFalsely : Prop := fnExactTraceOfRow.holds Try.pinned (OpenSpec.ofChange fnExactTraceOfWrong)

/-- 'laws.FnExactApplyMatrix': WHATEVER THE INPUT: true; the input reads as it did. -/
def fnExactApplyMatrixSpec : ChangeSpec := { name := "fnExactApplyMatrix", fn := fun _ => fun
  | [d1, d2] => { results := [.lit (.bool true)], args := [d1, d2] }
  | _ => none }
def fnExactApplyMatrixRow : OpenClaim := { program := "ytkjfphfbpocijaa", sum := "f6ec497bd6a51c9eae2c5bf48142d94814d0b78827932724aa553186245803e6", func := "loop.example/g00822/laws.FnExactApplyMatrix", spec := "fnExactApplyMatrix", apart := false }
def FnExactApplyMatrixSaid : Prop := fnExactApplyMatrixRow.holds Try.pinned (OpenSpec.ofChange fnExactApplyMatrixSpec)

/-- ITS FALSE NEIGHBOUR: 'it returns false'. Refute it at one input. -/
def fnExactApplyMatrixWrong : ChangeSpec := { name := "fnExactApplyMatrix", fn := fun _ => fun
  | [d1, d2] => { results := [.lit (.bool false)], args := [d1, d2] }
  | _ => none }
def FnExactApplyMatrixWrongFalsely : Prop := fnExactApplyMatrixRow.holds Try.pinned (OpenSpec.ofChange fnExactApplyMatrixWrong)

/-- 'laws.FnExactQuadraticForm': WHATEVER THE INPUT: true; the input reads as it did. -/
def fnExactQuadraticFormSpec : ChangeSpec := { name := "fnExactQuadraticForm", fn := fun _ => fun
  | [d1, d2] => { results := [.lit (.bool true)], args := [d1, d2] }
  | _ => none }
def fnExactQuadraticFormRow : OpenClaim := { program := "ytkjfphfbpocijaa", sum := "f6ec497bd6a51c9eae2c5bf48142d94814d0b78827932724aa553186245803e6", func := "loop.example/g00822/laws.FnExactQuadraticForm", spec := "fnExactQuadraticForm", apart := false }
def FnExactQuadraticFormSaid : Prop := fnExactQuadraticFormRow.holds Try.pinned (OpenSpec.ofChange fnExactQuadraticFormSpec)

/-- ITS FALSE NEIGHBOUR: 'it returns false'. Refute it at one input. -/
def fnExactQuadraticFormWrong : ChangeSpec := { name := "fnExactQuadraticForm", fn := fun _ => fun
  | [d1, d2] => { results := [.lit (.bool false)], args := [d1, d2] }
  | _ => none }
def FnExactQuadraticFormWrongFalsely : Prop := fnExactQuadraticFormRow.holds Try.pinned (OpenSpec.ofChange fnExactQuadraticFormWrong)

/-- 'laws.FnExactShiftNetwork': WHATEVER THE INPUT: true; the input reads as it did. -/
def fnExactShiftNetworkSpec : ChangeSpec := { name := "fnExactShiftNetwork", fn := fun _ => fun
  | [d1, d2, d3] => { results := [.lit (.bool true)], args := [d1, d2, d3] }
  | _ => none }
def fnExactShiftNetworkRow : OpenClaim := { program := "ytkjfphfbpocijaa", sum := "f6ec497bd6a51c9eae2c5bf48142d94814d0b78827932724aa553186245803e6", func := "loop.example/g00822/laws.FnExactShiftNetwork", spec := "fnExactShiftNetwork", apart := false }
def FnExactShiftNetworkSaid : Prop := fnExactShiftNetworkRow.holds Try.pinned (OpenSpec.ofChange fnExactShiftNetworkSpec)

/-- ITS FALSE NEIGHBOUR: 'it returns false'. Refute it at one input. -/
def fnExactShiftNetworkWrong : ChangeSpec := { name := "fnExactShiftNetwork", fn := fun _ => fun
  | [d1, d2, d3] => { results := [.lit (.bool false)], args := [d1, d2, d3] }
  | _ => none }
def FnExactShiftNetworkWrongFalsely : Prop := fnExactShiftNetworkRow.holds Try.pinned (OpenSpec.ofChange fnExactShiftNetworkWrong)

/-- 'laws.FnExactMoveStations': WHATEVER THE INPUT: true; the input reads as it did. -/
def fnExactMoveStationsSpec : ChangeSpec := { name := "fnExactMoveStations", fn := fun _ => fun
  | [d1, d2] => { results := [.lit (.bool true)], args := [d1, d2] }
  | _ => none }
def fnExactMoveStationsRow : OpenClaim := { program := "ytkjfphfbpocijaa", sum := "f6ec497bd6a51c9eae2c5bf48142d94814d0b78827932724aa553186245803e6", func := "loop.example/g00822/laws.FnExactMoveStations", spec := "fnExactMoveStations", apart := false }
def FnExactMoveStationsSaid : Prop := fnExactMoveStationsRow.holds Try.pinned (OpenSpec.ofChange fnExactMoveStationsSpec)

/-- ITS FALSE NEIGHBOUR: 'it returns false'. Refute it at one input. -/
def fnExactMoveStationsWrong : ChangeSpec := { name := "fnExactMoveStations", fn := fun _ => fun
  | [d1, d2] => { results := [.lit (.bool false)], args := [d1, d2] }
  | _ => none }
def FnExactMoveStationsWrongFalsely : Prop := fnExactMoveStationsRow.holds Try.pinned (OpenSpec.ofChange fnExactMoveStationsWrong)

/- THE SECOND FORM. 'bulk': how many values and letters a reading holds, each counted each time it is reached (what is shared counts as often as it is met; a slice's spare places count too). A statement '..UptoSaid' is the law's where the arguments, and the package variables that the reading takes, are together of bulk at most 1048576: NARROWER than '..Said'. Prove '..Said' where nothing that the law and all that it calls make is longer than what came in: it says more and counts as full. Else prove '..UptoSaid'. A law counts once. -/
mutual
def uptoBulk {H : Type} : DataW H → Nat
  | .lit (.string bytes) => bytes.length + 1
  | .lit _ => 1
  | .nil => 1
  | .ptr d => uptoBulk d + 1
  | .slice elems spare => uptoBulkAll elems + uptoBulkAll spare + 1
  | .agg parts => uptoBulkAll parts + 1
  | .iface _ d => uptoBulk d + 1
  | .map entries => uptoBulkEntries entries + 1
  | .held _ => 1
def uptoBulkAll {H : Type} : List (DataW H) → Nat
  | [] => 0
  | d :: r => uptoBulk d + uptoBulkAll r
def uptoBulkEntries {H : Type} : List (Lit × DataW H) → Nat
  | [] => 0
  | x :: r => uptoBulkEntry x + uptoBulkEntries r
def uptoBulkEntry {H : Type} : Lit × DataW H → Nat
  | (.string bytes, d) => bytes.length + uptoBulk d + 1
  | (_, d) => uptoBulk d + 1
 end
def uptoSmall : (H : Type) → List (DataW H) → Bool := fun _ ds => decide (uptoBulkAll ds ≤ 1048576)
def OpenSpec.upto (s : _root_.Go.ChangeSpec) : _root_.Go.OpenSpec := { _root_.Go.OpenSpec.ofChange s with cond := some uptoSmall }

/-- 'laws.FnExactWithoutObservations', WHERE WHAT IT READS IS OF BULK AT MOST 1048576: true; the input reads as it did. -/
def fnExactWithoutObservationsUptoRow : OpenClaim := { program := "ytkjfphfbpocijaa", sum := "f6ec497bd6a51c9eae2c5bf48142d94814d0b78827932724aa553186245803e6", func := "loop.example/g00822/laws.FnExactWithoutObservations", spec := "fnExactWithoutObservations", apart := false, narrowed := true }
def FnExactWithoutObservationsUptoSaid : Prop := fnExactWithoutObservationsUptoRow.holds Try.pinned (OpenSpec.upto fnExactWithoutObservationsSpec)

/-- 'laws.FnExactMatrixOf', WHERE WHAT IT READS IS OF BULK AT MOST 1048576: true; the input reads as it did. -/
def fnExactMatrixOfUptoRow : OpenClaim := { program := "ytkjfphfbpocijaa", sum := "f6ec497bd6a51c9eae2c5bf48142d94814d0b78827932724aa553186245803e6", func := "loop.example/g00822/laws.FnExactMatrixOf", spec := "fnExactMatrixOf", apart := false, narrowed := true }
def FnExactMatrixOfUptoSaid : Prop := fnExactMatrixOfUptoRow.holds Try.pinned (OpenSpec.upto fnExactMatrixOfSpec)

/-- 'laws.FnExactDiagonalOf', WHERE WHAT IT READS IS OF BULK AT MOST 1048576: true; the input reads as it did. -/
def fnExactDiagonalOfUptoRow : OpenClaim := { program := "ytkjfphfbpocijaa", sum := "f6ec497bd6a51c9eae2c5bf48142d94814d0b78827932724aa553186245803e6", func := "loop.example/g00822/laws.FnExactDiagonalOf", spec := "fnExactDiagonalOf", apart := false, narrowed := true }
def FnExactDiagonalOfUptoSaid : Prop := fnExactDiagonalOfUptoRow.holds Try.pinned (OpenSpec.upto fnExactDiagonalOfSpec)

/-- 'laws.FnExactCellAt', WHERE WHAT IT READS IS OF BULK AT MOST 1048576: true; the input reads as it did. -/
def fnExactCellAtUptoRow : OpenClaim := { program := "ytkjfphfbpocijaa", sum := "f6ec497bd6a51c9eae2c5bf48142d94814d0b78827932724aa553186245803e6", func := "loop.example/g00822/laws.FnExactCellAt", spec := "fnExactCellAt", apart := false, narrowed := true }
def FnExactCellAtUptoSaid : Prop := fnExactCellAtUptoRow.holds Try.pinned (OpenSpec.upto fnExactCellAtSpec)

/-- 'laws.FnExactRowOf', WHERE WHAT IT READS IS OF BULK AT MOST 1048576: true; the input reads as it did. -/
def fnExactRowOfUptoRow : OpenClaim := { program := "ytkjfphfbpocijaa", sum := "f6ec497bd6a51c9eae2c5bf48142d94814d0b78827932724aa553186245803e6", func := "loop.example/g00822/laws.FnExactRowOf", spec := "fnExactRowOf", apart := false, narrowed := true }
def FnExactRowOfUptoSaid : Prop := fnExactRowOfUptoRow.holds Try.pinned (OpenSpec.upto fnExactRowOfSpec)

/-- 'laws.FnExactTraceOf', WHERE WHAT IT READS IS OF BULK AT MOST 1048576: true; the input reads as it did. -/
def fnExactTraceOfUptoRow : OpenClaim := { program := "ytkjfphfbpocijaa", sum := "f6ec497bd6a51c9eae2c5bf48142d94814d0b78827932724aa553186245803e6", func := "loop.example/g00822/laws.FnExactTraceOf", spec := "fnExactTraceOf", apart := false, narrowed := true }
def FnExactTraceOfUptoSaid : Prop := fnExactTraceOfUptoRow.holds Try.pinned (OpenSpec.upto fnExactTraceOfSpec)

/-- 'laws.FnExactApplyMatrix', WHERE WHAT IT READS IS OF BULK AT MOST 1048576: true; the input reads as it did. -/
def fnExactApplyMatrixUptoRow : OpenClaim := { program := "ytkjfphfbpocijaa", sum := "f6ec497bd6a51c9eae2c5bf48142d94814d0b78827932724aa553186245803e6", func := "loop.example/g00822/laws.FnExactApplyMatrix", spec := "fnExactApplyMatrix", apart := false, narrowed := true }
def FnExactApplyMatrixUptoSaid : Prop := fnExactApplyMatrixUptoRow.holds Try.pinned (OpenSpec.upto fnExactApplyMatrixSpec)

/-- 'laws.FnExactQuadraticForm', WHERE WHAT IT READS IS OF BULK AT MOST 1048576: true; the input reads as it did. -/
def fnExactQuadraticFormUptoRow : OpenClaim := { program := "ytkjfphfbpocijaa", sum := "f6ec497bd6a51c9eae2c5bf48142d94814d0b78827932724aa553186245803e6", func := "loop.example/g00822/laws.FnExactQuadraticForm", spec := "fnExactQuadraticForm", apart := false, narrowed := true }
def FnExactQuadraticFormUptoSaid : Prop := fnExactQuadraticFormUptoRow.holds Try.pinned (OpenSpec.upto fnExactQuadraticFormSpec)

/-- 'laws.FnExactShiftNetwork', WHERE WHAT IT READS IS OF BULK AT MOST 1048576: true; the input reads as it did. -/
def fnExactShiftNetworkUptoRow : OpenClaim := { program := "ytkjfphfbpocijaa", sum := "f6ec497bd6a51c9eae2c5bf48142d94814d0b78827932724aa553186245803e6", func := "loop.example/g00822/laws.FnExactShiftNetwork", spec := "fnExactShiftNetwork", apart := false, narrowed := true }
def FnExactShiftNetworkUptoSaid : Prop := fnExactShiftNetworkUptoRow.holds Try.pinned (OpenSpec.upto fnExactShiftNetworkSpec)

/-- 'laws.FnExactMoveStations', WHERE WHAT IT READS IS OF BULK AT MOST 1048576: true; the input reads as it did. -/
def fnExactMoveStationsUptoRow : OpenClaim := { program := "ytkjfphfbpocijaa", sum := "f6ec497bd6a51c9eae2c5bf48142d94814d0b78827932724aa553186245803e6", func := "loop.example/g00822/laws.FnExactMoveStations", spec := "fnExactMoveStations", apart := false, narrowed := true }
def FnExactMoveStationsUptoSaid : Prop := fnExactMoveStationsUptoRow.holds Try.pinned (OpenSpec.upto fnExactMoveStationsSpec)

end Rows
end Go.Proofs.Ytkjfphfbpocijaa
