/-
  No cell of these rows narrows 'for every input' (looked for: loops, veiled, ifaces, maps, wideKeys, modest, calm, conditions, laid).
  DERIVED. THE GIVEN ROWS OF THIS SEAT. 6 by the template 'for every input the law returns true; each argument reads behind the call as it read before'; 0 by the template 'total and deterministic' (their statements: YtalnijffcoppkaaTotals.lean).
  GIVEN WITH THE SEED: the statements are not yours to turn. If you find one false, say at which input.
  Laid BY PROGRAM, IN A SANDBOX (cutbox-rows.mjs): the forced cells as the released guide's own fill.sh prints them over the translation 709e8df9d666c245… (all of the seat's roots in one cut). By AI agents, Wed Nov 11 2026. No macro, syntax, notation, axiom, sorry.
-/
import Derived.Test.YtalnijffcoppkaaChecked
import GoSem.Claim
import GoSem.ClaimJoined
import GoSem.ClaimMapViews
import Derived.JoinedTies
import Derived.KernelRfl
namespace Go.Proofs.Ytalnijffcoppkaa
/- THE CELL 'sum', in the pinned program and in every row, IS THE sha256 OF THE DUMP (.gsa) THAT YtalnijffcoppkaaProg.lean LOADS. Nothing in Lean hashes anything: it is a label: what it is worth is what the hold of that sum in a sandbox is worth. -/
noncomputable def Try.pinned : Pinned := { name := "ytalnijffcoppkaa", sum := "709e8df9d666c24540313c330e56c5cb3c754e188eb298579edd254593f46fd7", checked := Try.checked }
namespace Rows
def none {H : Type} : Left H := { results := [], args := [] }

/-- 'laws.FnExactIsBetween': WHATEVER THE INPUT: true; the input reads as it did. -/
def fnExactIsBetweenSpec : ChangeSpec := { name := "fnExactIsBetween", fn := fun _ => fun
  | [d] => { results := [.lit (.bool true)], args := [d] }
  | _ => none }
def fnExactIsBetweenRow : OpenClaim := { program := "ytalnijffcoppkaa", sum := "709e8df9d666c24540313c330e56c5cb3c754e188eb298579edd254593f46fd7", func := "loop.example/g00822/laws.FnExactIsBetween", spec := "fnExactIsBetween", apart := false }
def FnExactIsBetweenSaid : Prop := fnExactIsBetweenRow.holds Try.pinned (OpenSpec.ofChange fnExactIsBetweenSpec)

/-- ITS FALSE NEIGHBOUR: 'it returns false'. Refute it at one input. -/
def fnExactIsBetweenWrong : ChangeSpec := { name := "fnExactIsBetween", fn := fun _ => fun
  | [d] => { results := [.lit (.bool false)], args := [d] }
  | _ => none }
def FnExactIsBetweenWrongFalsely : Prop := fnExactIsBetweenRow.holds Try.pinned (OpenSpec.ofChange fnExactIsBetweenWrong)

/-- 'laws.FnExactKindName': WHATEVER THE INPUT: true; the input reads as it did. -/
def fnExactKindNameSpec : ChangeSpec := { name := "fnExactKindName", fn := fun _ => fun
  | [d] => { results := [.lit (.bool true)], args := [d] }
  | _ => none }
def fnExactKindNameRow : OpenClaim := { program := "ytalnijffcoppkaa", sum := "709e8df9d666c24540313c330e56c5cb3c754e188eb298579edd254593f46fd7", func := "loop.example/g00822/laws.FnExactKindName", spec := "fnExactKindName", apart := false }
def FnExactKindNameSaid : Prop := fnExactKindNameRow.holds Try.pinned (OpenSpec.ofChange fnExactKindNameSpec)

/-- ITS FALSE NEIGHBOUR: 'it returns false'. Refute it at one input. -/
def fnExactKindNameWrong : ChangeSpec := { name := "fnExactKindName", fn := fun _ => fun
  | [d] => { results := [.lit (.bool false)], args := [d] }
  | _ => none }
def FnExactKindNameWrongFalsely : Prop := fnExactKindNameRow.holds Try.pinned (OpenSpec.ofChange fnExactKindNameWrong)

/-- 'laws.FnExactCountRepeats': WHATEVER THE INPUT: true; the input reads as it did. -/
def fnExactCountRepeatsSpec : ChangeSpec := { name := "fnExactCountRepeats", fn := fun _ => fun
  | [d] => { results := [.lit (.bool true)], args := [d] }
  | _ => none }
def fnExactCountRepeatsRow : OpenClaim := { program := "ytalnijffcoppkaa", sum := "709e8df9d666c24540313c330e56c5cb3c754e188eb298579edd254593f46fd7", func := "loop.example/g00822/laws.FnExactCountRepeats", spec := "fnExactCountRepeats", apart := false }
def FnExactCountRepeatsSaid : Prop := fnExactCountRepeatsRow.holds Try.pinned (OpenSpec.ofChange fnExactCountRepeatsSpec)

/-- ITS FALSE NEIGHBOUR: 'it returns false'. Refute it at one input. -/
def fnExactCountRepeatsWrong : ChangeSpec := { name := "fnExactCountRepeats", fn := fun _ => fun
  | [d] => { results := [.lit (.bool false)], args := [d] }
  | _ => none }
def FnExactCountRepeatsWrongFalsely : Prop := fnExactCountRepeatsRow.holds Try.pinned (OpenSpec.ofChange fnExactCountRepeatsWrong)

/-- 'laws.FnExactFindStation': WHATEVER THE INPUT: true; the input reads as it did. -/
def fnExactFindStationSpec : ChangeSpec := { name := "fnExactFindStation", fn := fun _ => fun
  | [d1, d2] => { results := [.lit (.bool true)], args := [d1, d2] }
  | _ => none }
def fnExactFindStationRow : OpenClaim := { program := "ytalnijffcoppkaa", sum := "709e8df9d666c24540313c330e56c5cb3c754e188eb298579edd254593f46fd7", func := "loop.example/g00822/laws.FnExactFindStation", spec := "fnExactFindStation", apart := false }
def FnExactFindStationSaid : Prop := fnExactFindStationRow.holds Try.pinned (OpenSpec.ofChange fnExactFindStationSpec)

/-- ITS FALSE NEIGHBOUR: 'it returns false'. Refute it at one input. -/
def fnExactFindStationWrong : ChangeSpec := { name := "fnExactFindStation", fn := fun _ => fun
  | [d1, d2] => { results := [.lit (.bool false)], args := [d1, d2] }
  | _ => none }
def FnExactFindStationWrongFalsely : Prop := fnExactFindStationRow.holds Try.pinned (OpenSpec.ofChange fnExactFindStationWrong)

/-- 'laws.FnExactEqualMatrices': WHATEVER THE INPUT: true; the input reads as it did. -/
def fnExactEqualMatricesSpec : ChangeSpec := { name := "fnExactEqualMatrices", fn := fun _ => fun
  | [d1, d2] => { results := [.lit (.bool true)], args := [d1, d2] }
  | _ => none }
def fnExactEqualMatricesRow : OpenClaim := { program := "ytalnijffcoppkaa", sum := "709e8df9d666c24540313c330e56c5cb3c754e188eb298579edd254593f46fd7", func := "loop.example/g00822/laws.FnExactEqualMatrices", spec := "fnExactEqualMatrices", apart := false }
def FnExactEqualMatricesSaid : Prop := fnExactEqualMatricesRow.holds Try.pinned (OpenSpec.ofChange fnExactEqualMatricesSpec)

/-- ITS FALSE NEIGHBOUR: 'it returns false'. Refute it at one input. -/
def fnExactEqualMatricesWrong : ChangeSpec := { name := "fnExactEqualMatrices", fn := fun _ => fun
  | [d1, d2] => { results := [.lit (.bool false)], args := [d1, d2] }
  | _ => none }
def FnExactEqualMatricesWrongFalsely : Prop := fnExactEqualMatricesRow.holds Try.pinned (OpenSpec.ofChange fnExactEqualMatricesWrong)

/-- 'laws.FnExactSameObservations': WHATEVER THE INPUT: true; the input reads as it did. -/
def fnExactSameObservationsSpec : ChangeSpec := { name := "fnExactSameObservations", fn := fun _ => fun
  | [d1, d2] => { results := [.lit (.bool true)], args := [d1, d2] }
  | _ => none }
def fnExactSameObservationsRow : OpenClaim := { program := "ytalnijffcoppkaa", sum := "709e8df9d666c24540313c330e56c5cb3c754e188eb298579edd254593f46fd7", func := "loop.example/g00822/laws.FnExactSameObservations", spec := "fnExactSameObservations", apart := false }
def FnExactSameObservationsSaid : Prop := fnExactSameObservationsRow.holds Try.pinned (OpenSpec.ofChange fnExactSameObservationsSpec)

/-- ITS FALSE NEIGHBOUR: 'it returns false'. Refute it at one input. -/
def fnExactSameObservationsWrong : ChangeSpec := { name := "fnExactSameObservations", fn := fun _ => fun
  | [d1, d2] => { results := [.lit (.bool false)], args := [d1, d2] }
  | _ => none }
def FnExactSameObservationsWrongFalsely : Prop := fnExactSameObservationsRow.holds Try.pinned (OpenSpec.ofChange fnExactSameObservationsWrong)

/- THE SECOND FORM. 'bulk': how many values and letters a reading holds, each counted each time it is reached (what is shared counts as often as it is met; a slice's spare places count too). A statement '..UptoSaid' is the law's where the arguments, and the package variables that the reading takes, are together of bulk at most 1048576: NARROWER than '..Said'. Prove '..Said' where nothing that the law and all that it calls make is longer than what came in: it says more and counts as full. Else prove '..UptoSaid'. A law counts once. -/
mutual
def uptoBulk {H : Type} : DataW H → Nat
  | .lit (.string bytes) => bytes.length + 1
  | .lit _ => 1
  | .nil => 1
  | .ptr d => uptoBulk d + 1
  | .slice elems spare => uptoBulkAll elems + uptoBulkAll spare + 1
  | .agg parts => uptoBulkAll parts + 1
  | .iface _ d => uptoBulk d + 1
  | .map entries => uptoBulkEntries entries + 1
  | .held _ => 1
def uptoBulkAll {H : Type} : List (DataW H) → Nat
  | [] => 0
  | d :: r => uptoBulk d + uptoBulkAll r
def uptoBulkEntries {H : Type} : List (Lit × DataW H) → Nat
  | [] => 0
  | x :: r => uptoBulkEntry x + uptoBulkEntries r
def uptoBulkEntry {H : Type} : Lit × DataW H → Nat
  | (.string bytes, d) => bytes.length + uptoBulk d + 1
  | (_, d) => uptoBulk d + 1
 end
def uptoSmall : (H : Type) → List (DataW H) → Bool := fun _ ds => decide (uptoBulkAll ds ≤ 1048576)
def OpenSpec.upto (s : _root_.Go.ChangeSpec) : _root_.Go.OpenSpec := { _root_.Go.OpenSpec.ofChange s with cond := some uptoSmall }

/-- 'laws.FnExactIsBetween', WHERE WHAT IT READS IS OF BULK AT MOST 1048576: true; the input reads as it did. -/
def fnExactIsBetweenUptoRow : OpenClaim := { program := "ytalnijffcoppkaa", sum := "709e8df9d666c24540313c330e56c5cb3c754e188eb298579edd254593f46fd7", func := "loop.example/g00822/laws.FnExactIsBetween", spec := "fnExactIsBetween", apart := false, narrowed := true }
def FnExactIsBetweenUptoSaid : Prop := fnExactIsBetweenUptoRow.holds Try.pinned (OpenSpec.upto fnExactIsBetweenSpec)

/-- 'laws.FnExactKindName', WHERE WHAT IT READS IS OF BULK AT MOST 1048576: true; the input reads as it did. -/
def fnExactKindNameUptoRow : OpenClaim := { program := "ytalnijffcoppkaa", sum := "709e8df9d666c24540313c330e56c5cb3c754e188eb298579edd254593f46fd7", func := "loop.example/g00822/laws.FnExactKindName", spec := "fnExactKindName", apart := false, narrowed := true }
def FnExactKindNameUptoSaid : Prop := fnExactKindNameUptoRow.holds Try.pinned (OpenSpec.upto fnExactKindNameSpec)

/-- 'laws.FnExactCountRepeats', WHERE WHAT IT READS IS OF BULK AT MOST 1048576: true; the input reads as it did. -/
def fnExactCountRepeatsUptoRow : OpenClaim := { program := "ytalnijffcoppkaa", sum := "709e8df9d666c24540313c330e56c5cb3c754e188eb298579edd254593f46fd7", func := "loop.example/g00822/laws.FnExactCountRepeats", spec := "fnExactCountRepeats", apart := false, narrowed := true }
def FnExactCountRepeatsUptoSaid : Prop := fnExactCountRepeatsUptoRow.holds Try.pinned (OpenSpec.upto fnExactCountRepeatsSpec)

/-- 'laws.FnExactFindStation', WHERE WHAT IT READS IS OF BULK AT MOST 1048576: true; the input reads as it did. -/
def fnExactFindStationUptoRow : OpenClaim := { program := "ytalnijffcoppkaa", sum := "709e8df9d666c24540313c330e56c5cb3c754e188eb298579edd254593f46fd7", func := "loop.example/g00822/laws.FnExactFindStation", spec := "fnExactFindStation", apart := false, narrowed := true }
def FnExactFindStationUptoSaid : Prop := fnExactFindStationUptoRow.holds Try.pinned (OpenSpec.upto fnExactFindStationSpec)

/-- 'laws.FnExactEqualMatrices', WHERE WHAT IT READS IS OF BULK AT MOST 1048576: true; the input reads as it did. -/
def fnExactEqualMatricesUptoRow : OpenClaim := { program := "ytalnijffcoppkaa", sum := "709e8df9d666c24540313c330e56c5cb3c754e188eb298579edd254593f46fd7", func := "loop.example/g00822/laws.FnExactEqualMatrices", spec := "fnExactEqualMatrices", apart := false, narrowed := true }
def FnExactEqualMatricesUptoSaid : Prop := fnExactEqualMatricesUptoRow.holds Try.pinned (OpenSpec.upto fnExactEqualMatricesSpec)

/-- 'laws.FnExactSameObservations', WHERE WHAT IT READS IS OF BULK AT MOST 1048576: true; the input reads as it did. -/
def fnExactSameObservationsUptoRow : OpenClaim := { program := "ytalnijffcoppkaa", sum := "709e8df9d666c24540313c330e56c5cb3c754e188eb298579edd254593f46fd7", func := "loop.example/g00822/laws.FnExactSameObservations", spec := "fnExactSameObservations", apart := false, narrowed := true }
def FnExactSameObservationsUptoSaid : Prop := fnExactSameObservationsUptoRow.holds Try.pinned (OpenSpec.upto fnExactSameObservationsSpec)

end Rows
end Go.Proofs.Ytalnijffcoppkaa
