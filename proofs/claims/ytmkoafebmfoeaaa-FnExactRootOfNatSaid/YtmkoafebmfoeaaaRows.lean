/-
  No cell of these rows narrows 'for every input' (looked for: loops, veiled, ifaces, maps, wideKeys, modest, calm, conditions, laid).
  DERIVED. THE GIVEN ROWS OF THIS SEAT. 12 by the template 'for every input the law returns true; each argument reads behind the call as it read before'; 0 by the template 'total and deterministic' (their statements: YtmkoafebmfoeaaaTotals.lean).
  GIVEN WITH THE SEED: the statements are not yours to turn. If you find one false, say at which input.
  Laid BY PROGRAM, IN A SANDBOX (cutbox-rows.mjs): the forced cells as the released guide's own fill.sh prints them over the translation 772b13e95096e15b… (all of the seat's roots in one cut). By AI agents, Wed Nov 11 2026. No macro, syntax, notation, axiom, sorry.
-/
import Derived.Test.YtmkoafebmfoeaaaChecked
import GoSem.Claim
import GoSem.ClaimJoined
import GoSem.ClaimMapViews
import Derived.JoinedTies
import Derived.KernelRfl
namespace Go.Proofs.Ytmkoafebmfoeaaa
/- THE CELL 'sum', in the pinned program and in every row, IS THE sha256 OF THE DUMP (.gsa) THAT YtmkoafebmfoeaaaProg.lean LOADS. Nothing in Lean hashes anything: it is a label: what it is worth is what the hold of that sum in a sandbox is worth. -/
noncomputable def Try.pinned : Pinned := { name := "ytmkoafebmfoeaaa", sum := "772b13e95096e15bcf0ab624ff1cd0b723c711c41bddc45c6a86bf52c8972d1d", checked := Try.checked }
namespace Rows
def none {H : Type} : Left H := { results := [], args := [] }

/-- 'laws.FnExactWithoutObservations': WHATEVER THE INPUT: true; the input reads as it did. -/
def fnExactWithoutObservationsSpec : ChangeSpec := { name := "fnExactWithoutObservations", fn := fun _ => fun
  | [d1, d2] => { results := [.lit (.bool true)], args := [d1, d2] }
  | _ => none }
def fnExactWithoutObservationsRow : OpenClaim := { program := "ytmkoafebmfoeaaa", sum := "772b13e95096e15bcf0ab624ff1cd0b723c711c41bddc45c6a86bf52c8972d1d", func := "loop.example/g00822/laws.FnExactWithoutObservations", spec := "fnExactWithoutObservations", apart := false }
def FnExactWithoutObservationsSaid : Prop := fnExactWithoutObservationsRow.holds Try.pinned (OpenSpec.ofChange fnExactWithoutObservationsSpec)

/-- ITS FALSE NEIGHBOUR: 'it returns false'. Refute it at one input. -/
def fnExactWithoutObservationsWrong : ChangeSpec := { name := "fnExactWithoutObservations", fn := fun _ => fun
  | [d1, d2] => { results := [.lit (.bool false)], args := [d1, d2] }
  | _ => none }
def FnExactWithoutObservationsWrongFalsely : Prop := fnExactWithoutObservationsRow.holds Try.pinned (OpenSpec.ofChange fnExactWithoutObservationsWrong)

/-- 'laws.FnExactSameBooks': WHATEVER THE INPUT: true; the input reads as it did. -/
def fnExactSameBooksSpec : ChangeSpec := { name := "fnExactSameBooks", fn := fun _ => fun
  | [d1, d2] => { results := [.lit (.bool true)], args := [d1, d2] }
  | _ => none }
def fnExactSameBooksRow : OpenClaim := { program := "ytmkoafebmfoeaaa", sum := "772b13e95096e15bcf0ab624ff1cd0b723c711c41bddc45c6a86bf52c8972d1d", func := "loop.example/g00822/laws.FnExactSameBooks", spec := "fnExactSameBooks", apart := false }
def FnExactSameBooksSaid : Prop := fnExactSameBooksRow.holds Try.pinned (OpenSpec.ofChange fnExactSameBooksSpec)

/-- ITS FALSE NEIGHBOUR: 'it returns false'. Refute it at one input. -/
def fnExactSameBooksWrong : ChangeSpec := { name := "fnExactSameBooks", fn := fun _ => fun
  | [d1, d2] => { results := [.lit (.bool false)], args := [d1, d2] }
  | _ => none }
def FnExactSameBooksWrongFalsely : Prop := fnExactSameBooksRow.holds Try.pinned (OpenSpec.ofChange fnExactSameBooksWrong)

/-- 'laws.FnExactRootOfNat': WHATEVER THE INPUT: true; the input reads as it did. -/
def fnExactRootOfNatSpec : ChangeSpec := { name := "fnExactRootOfNat", fn := fun _ => fun
  | [d] => { results := [.lit (.bool true)], args := [d] }
  | _ => none }
def fnExactRootOfNatRow : OpenClaim := { program := "ytmkoafebmfoeaaa", sum := "772b13e95096e15bcf0ab624ff1cd0b723c711c41bddc45c6a86bf52c8972d1d", func := "loop.example/g00822/laws.FnExactRootOfNat", spec := "fnExactRootOfNat", apart := false }
def FnExactRootOfNatSaid : Prop := fnExactRootOfNatRow.holds Try.pinned (OpenSpec.ofChange fnExactRootOfNatSpec)

/-- ITS FALSE NEIGHBOUR: 'it returns false'. Refute it at one input. -/
def fnExactRootOfNatWrong : ChangeSpec := { name := "fnExactRootOfNat", fn := fun _ => fun
  | [d] => { results := [.lit (.bool false)], args := [d] }
  | _ => none }
def FnExactRootOfNatWrongFalsely : Prop := fnExactRootOfNatRow.holds Try.pinned (OpenSpec.ofChange fnExactRootOfNatWrong)

/-- 'laws.FnExactMatrixOf': WHATEVER THE INPUT: true; the input reads as it did. -/
def fnExactMatrixOfSpec : ChangeSpec := { name := "fnExactMatrixOf", fn := fun _ => fun
  | [d1, d2, d3] => { results := [.lit (.bool true)], args := [d1, d2, d3] }
  | _ => none }
def fnExactMatrixOfRow : OpenClaim := { program := "ytmkoafebmfoeaaa", sum := "772b13e95096e15bcf0ab624ff1cd0b723c711c41bddc45c6a86bf52c8972d1d", func := "loop.example/g00822/laws.FnExactMatrixOf", spec := "fnExactMatrixOf", apart := false }
def FnExactMatrixOfSaid : Prop := fnExactMatrixOfRow.holds Try.pinned (OpenSpec.ofChange fnExactMatrixOfSpec)

/-- ITS FALSE NEIGHBOUR: 'it returns false'. Refute it at one input. -/
def fnExactMatrixOfWrong : ChangeSpec := { name := "fnExactMatrixOf", fn := fun _ => fun
  | [d1, d2, d3] => { results := [.lit (.bool false)], args := [d1, d2, d3] }
  | _ => none }
def FnExactMatrixOfWrongFalsely : Prop := fnExactMatrixOfRow.holds Try.pinned (OpenSpec.ofChange fnExactMatrixOfWrong)

/-- 'laws.FnExactIdentityMatrix': WHATEVER THE INPUT: true; the input reads as it did. -/
def fnExactIdentityMatrixSpec : ChangeSpec := { name := "fnExactIdentityMatrix", fn := fun _ => fun
  | [d] => { results := [.lit (.bool true)], args := [d] }
  | _ => none }
def fnExactIdentityMatrixRow : OpenClaim := { program := "ytmkoafebmfoeaaa", sum := "772b13e95096e15bcf0ab624ff1cd0b723c711c41bddc45c6a86bf52c8972d1d", func := "loop.example/g00822/laws.FnExactIdentityMatrix", spec := "fnExactIdentityMatrix", unfollowed := true, recurses := true, apart := false }
def FnExactIdentityMatrixSaid : Prop := fnExactIdentityMatrixRow.holds Try.pinned (OpenSpec.ofChange fnExactIdentityMatrixSpec)

/-- ITS FALSE NEIGHBOUR: 'it returns false'. Refute it at one input. -/
def fnExactIdentityMatrixWrong : ChangeSpec := { name := "fnExactIdentityMatrix", fn := fun _ => fun
  | [d] => { results := [.lit (.bool false)], args := [d] }
  | _ => none }
def FnExactIdentityMatrixWrongFalsely : Prop := fnExactIdentityMatrixRow.holds Try.pinned (OpenSpec.ofChange fnExactIdentityMatrixWrong)

/-- 'laws.FnExactStationOk': WHATEVER THE INPUT: true; the input reads as it did. -/
def fnExactStationOkSpec : ChangeSpec := { name := "fnExactStationOk", fn := fun _ => fun
  | [d1, d2] => { results := [.lit (.bool true)], args := [d1, d2] }
  | _ => none }
def fnExactStationOkRow : OpenClaim := { program := "ytmkoafebmfoeaaa", sum := "772b13e95096e15bcf0ab624ff1cd0b723c711c41bddc45c6a86bf52c8972d1d", func := "loop.example/g00822/laws.FnExactStationOk", spec := "fnExactStationOk", apart := false }
def FnExactStationOkSaid : Prop := fnExactStationOkRow.holds Try.pinned (OpenSpec.ofChange fnExactStationOkSpec)

/-- ITS FALSE NEIGHBOUR: 'it returns false'. Refute it at one input. -/
def fnExactStationOkWrong : ChangeSpec := { name := "fnExactStationOk", fn := fun _ => fun
  | [d1, d2] => { results := [.lit (.bool false)], args := [d1, d2] }
  | _ => none }
def FnExactStationOkWrongFalsely : Prop := fnExactStationOkRow.holds Try.pinned (OpenSpec.ofChange fnExactStationOkWrong)

/-- 'laws.FnExactMatrixOk': WHATEVER THE INPUT: true; the input reads as it did. -/
def fnExactMatrixOkSpec : ChangeSpec := { name := "fnExactMatrixOk", fn := fun _ => fun
  | [d] => { results := [.lit (.bool true)], args := [d] }
  | _ => none }
def fnExactMatrixOkRow : OpenClaim := { program := "ytmkoafebmfoeaaa", sum := "772b13e95096e15bcf0ab624ff1cd0b723c711c41bddc45c6a86bf52c8972d1d", func := "loop.example/g00822/laws.FnExactMatrixOk", spec := "fnExactMatrixOk", apart := false }
def FnExactMatrixOkSaid : Prop := fnExactMatrixOkRow.holds Try.pinned (OpenSpec.ofChange fnExactMatrixOkSpec)

/-- ITS FALSE NEIGHBOUR: 'it returns false'. Refute it at one input. -/
def fnExactMatrixOkWrong : ChangeSpec := { name := "fnExactMatrixOk", fn := fun _ => fun
  | [d] => { results := [.lit (.bool false)], args := [d] }
  | _ => none }
def FnExactMatrixOkWrongFalsely : Prop := fnExactMatrixOkRow.holds Try.pinned (OpenSpec.ofChange fnExactMatrixOkWrong)

/-- 'laws.FnExactDiagonalOf': WHATEVER THE INPUT: true; the input reads as it did. -/
def fnExactDiagonalOfSpec : ChangeSpec := { name := "fnExactDiagonalOf", fn := fun _ => fun
  | [d] => { results := [.lit (.bool true)], args := [d] }
  | _ => none }
def fnExactDiagonalOfRow : OpenClaim := { program := "ytmkoafebmfoeaaa", sum := "772b13e95096e15bcf0ab624ff1cd0b723c711c41bddc45c6a86bf52c8972d1d", func := "loop.example/g00822/laws.FnExactDiagonalOf", spec := "fnExactDiagonalOf", apart := false }
def FnExactDiagonalOfSaid : Prop := fnExactDiagonalOfRow.holds Try.pinned (OpenSpec.ofChange fnExactDiagonalOfSpec)

/-- ITS FALSE NEIGHBOUR: 'it returns false'. Refute it at one input. -/
def fnExactDiagonalOfWrong : ChangeSpec := { name := "fnExactDiagonalOf", fn := fun _ => fun
  | [d] => { results := [.lit (.bool false)], args := [d] }
  | _ => none }
def FnExactDiagonalOfWrongFalsely : Prop := fnExactDiagonalOfRow.holds Try.pinned (OpenSpec.ofChange fnExactDiagonalOfWrong)

/-- 'laws.FnExactCellAt': WHATEVER THE INPUT: true; the input reads as it did. -/
def fnExactCellAtSpec : ChangeSpec := { name := "fnExactCellAt", fn := fun _ => fun
  | [d1, d2, d3] => { results := [.lit (.bool true)], args := [d1, d2, d3] }
  | _ => none }
def fnExactCellAtRow : OpenClaim := { program := "ytmkoafebmfoeaaa", sum := "772b13e95096e15bcf0ab624ff1cd0b723c711c41bddc45c6a86bf52c8972d1d", func := "loop.example/g00822/laws.FnExactCellAt", spec := "fnExactCellAt", apart := false }
def FnExactCellAtSaid : Prop := fnExactCellAtRow.holds Try.pinned (OpenSpec.ofChange fnExactCellAtSpec)

/-- ITS FALSE NEIGHBOUR: 'it returns false'. Refute it at one input. -/
def fnExactCellAtWrong : ChangeSpec := { name := "fnExactCellAt", fn := fun _ => fun
  | [d1, d2, d3] => { results := [.lit (.bool false)], args := [d1, d2, d3] }
  | _ => none }
def FnExactCellAtWrongFalsely : Prop := fnExactCellAtRow.holds Try.pinned (OpenSpec.ofChange fnExactCellAtWrong)

/-- 'laws.FnExactNetworkOk': WHATEVER THE INPUT: true; the input reads as it did. -/
def fnExactNetworkOkSpec : ChangeSpec := { name := "fnExactNetworkOk", fn := fun _ => fun
  | [d] => { results := [.lit (.bool true)], args := [d] }
  | _ => none }
def fnExactNetworkOkRow : OpenClaim := { program := "ytmkoafebmfoeaaa", sum := "772b13e95096e15bcf0ab624ff1cd0b723c711c41bddc45c6a86bf52c8972d1d", func := "loop.example/g00822/laws.FnExactNetworkOk", spec := "fnExactNetworkOk", apart := false }
def FnExactNetworkOkSaid : Prop := fnExactNetworkOkRow.holds Try.pinned (OpenSpec.ofChange fnExactNetworkOkSpec)

/-- ITS FALSE NEIGHBOUR: 'it returns false'. Refute it at one input. -/
def fnExactNetworkOkWrong : ChangeSpec := { name := "fnExactNetworkOk", fn := fun _ => fun
  | [d] => { results := [.lit (.bool false)], args := [d] }
  | _ => none }
def FnExactNetworkOkWrongFalsely : Prop := fnExactNetworkOkRow.holds Try.pinned (OpenSpec.ofChange fnExactNetworkOkWrong)

/-- 'laws.FnExactRowOf': WHATEVER THE INPUT: true; the input reads as it did. -/
def fnExactRowOfSpec : ChangeSpec := { name := "fnExactRowOf", fn := fun _ => fun
  | [d1, d2] => { results := [.lit (.bool true)], args := [d1, d2] }
  | _ => none }
def fnExactRowOfRow : OpenClaim := { program := "ytmkoafebmfoeaaa", sum := "772b13e95096e15bcf0ab624ff1cd0b723c711c41bddc45c6a86bf52c8972d1d", func := "loop.example/g00822/laws.FnExactRowOf", spec := "fnExactRowOf", apart := false }
def FnExactRowOfSaid : Prop := fnExactRowOfRow.holds Try.pinned (OpenSpec.ofChange fnExactRowOfSpec)

/-- ITS FALSE NEIGHBOUR: 'it returns false'. Refute it at one input. -/
def fnExactRowOfWrong : ChangeSpec := { name := "fnExactRowOf", fn := fun _ => fun
  | [d1, d2] => { results := [.lit (.bool false)], args := [d1, d2] }
  | _ => none }
def FnExactRowOfWrongFalsely : Prop := fnExactRowOfRow.holds Try.pinned (OpenSpec.ofChange fnExactRowOfWrong)

/-- 'laws.FnExactIsSymmetric': WHATEVER THE INPUT: true; the input reads as it did. -/
def fnExactIsSymmetricSpec : ChangeSpec := { name := "fnExactIsSymmetric", fn := fun _ => fun
  | [d] => { results := [.lit (.bool true)], args := [d] }
  | _ => none }
def fnExactIsSymmetricRow : OpenClaim := { program := "ytmkoafebmfoeaaa", sum := "772b13e95096e15bcf0ab624ff1cd0b723c711c41bddc45c6a86bf52c8972d1d", func := "loop.example/g00822/laws.FnExactIsSymmetric", spec := "fnExactIsSymmetric", unfollowed := true, recurses := true, apart := false }
def FnExactIsSymmetricSaid : Prop := fnExactIsSymmetricRow.holds Try.pinned (OpenSpec.ofChange fnExactIsSymmetricSpec)

/-- ITS FALSE NEIGHBOUR: 'it returns false'. Refute it at one input. -/
def fnExactIsSymmetricWrong : ChangeSpec := { name := "fnExactIsSymmetric", fn := fun _ => fun
  | [d] => { results := [.lit (.bool false)], args := [d] }
  | _ => none }
def FnExactIsSymmetricWrongFalsely : Prop := fnExactIsSymmetricRow.holds Try.pinned (OpenSpec.ofChange fnExactIsSymmetricWrong)

/- THE SECOND FORM. 'bulk': how many values and letters a reading holds, each counted each time it is reached (what is shared counts as often as it is met; a slice's spare places count too). A statement '..UptoSaid' is the law's where the arguments, and the package variables that the reading takes, are together of bulk at most 1048576: NARROWER than '..Said'. Prove '..Said' where nothing that the law and all that it calls make is longer than what came in: it says more and counts as full. Else prove '..UptoSaid'. A law counts once. -/
mutual
def uptoBulk {H : Type} : DataW H → Nat
  | .lit (.string bytes) => bytes.length + 1
  | .lit _ => 1
  | .nil => 1
  | .ptr d => uptoBulk d + 1
  | .slice elems spare => uptoBulkAll elems + uptoBulkAll spare + 1
  | .agg parts => uptoBulkAll parts + 1
  | .iface _ d => uptoBulk d + 1
  | .map entries => uptoBulkEntries entries + 1
  | .held _ => 1
def uptoBulkAll {H : Type} : List (DataW H) → Nat
  | [] => 0
  | d :: r => uptoBulk d + uptoBulkAll r
def uptoBulkEntries {H : Type} : List (Lit × DataW H) → Nat
  | [] => 0
  | x :: r => uptoBulkEntry x + uptoBulkEntries r
def uptoBulkEntry {H : Type} : Lit × DataW H → Nat
  | (.string bytes, d) => bytes.length + uptoBulk d + 1
  | (_, d) => uptoBulk d + 1
 end
def uptoSmall : (H : Type) → List (DataW H) → Bool := fun _ ds => decide (uptoBulkAll ds ≤ 1048576)
def OpenSpec.upto (s : _root_.Go.ChangeSpec) : _root_.Go.OpenSpec := { _root_.Go.OpenSpec.ofChange s with cond := some uptoSmall }

/-- 'laws.FnExactWithoutObservations', WHERE WHAT IT READS IS OF BULK AT MOST 1048576: true; the input reads as it did. -/
def fnExactWithoutObservationsUptoRow : OpenClaim := { program := "ytmkoafebmfoeaaa", sum := "772b13e95096e15bcf0ab624ff1cd0b723c711c41bddc45c6a86bf52c8972d1d", func := "loop.example/g00822/laws.FnExactWithoutObservations", spec := "fnExactWithoutObservations", apart := false, narrowed := true }
def FnExactWithoutObservationsUptoSaid : Prop := fnExactWithoutObservationsUptoRow.holds Try.pinned (OpenSpec.upto fnExactWithoutObservationsSpec)

/-- 'laws.FnExactSameBooks', WHERE WHAT IT READS IS OF BULK AT MOST 1048576: true; the input reads as it did. -/
def fnExactSameBooksUptoRow : OpenClaim := { program := "ytmkoafebmfoeaaa", sum := "772b13e95096e15bcf0ab624ff1cd0b723c711c41bddc45c6a86bf52c8972d1d", func := "loop.example/g00822/laws.FnExactSameBooks", spec := "fnExactSameBooks", apart := false, narrowed := true }
def FnExactSameBooksUptoSaid : Prop := fnExactSameBooksUptoRow.holds Try.pinned (OpenSpec.upto fnExactSameBooksSpec)

/-- 'laws.FnExactRootOfNat', WHERE WHAT IT READS IS OF BULK AT MOST 1048576: true; the input reads as it did. -/
def fnExactRootOfNatUptoRow : OpenClaim := { program := "ytmkoafebmfoeaaa", sum := "772b13e95096e15bcf0ab624ff1cd0b723c711c41bddc45c6a86bf52c8972d1d", func := "loop.example/g00822/laws.FnExactRootOfNat", spec := "fnExactRootOfNat", apart := false, narrowed := true }
def FnExactRootOfNatUptoSaid : Prop := fnExactRootOfNatUptoRow.holds Try.pinned (OpenSpec.upto fnExactRootOfNatSpec)

/-- 'laws.FnExactMatrixOf', WHERE WHAT IT READS IS OF BULK AT MOST 1048576: true; the input reads as it did. -/
def fnExactMatrixOfUptoRow : OpenClaim := { program := "ytmkoafebmfoeaaa", sum := "772b13e95096e15bcf0ab624ff1cd0b723c711c41bddc45c6a86bf52c8972d1d", func := "loop.example/g00822/laws.FnExactMatrixOf", spec := "fnExactMatrixOf", apart := false, narrowed := true }
def FnExactMatrixOfUptoSaid : Prop := fnExactMatrixOfUptoRow.holds Try.pinned (OpenSpec.upto fnExactMatrixOfSpec)

/-- 'laws.FnExactIdentityMatrix', WHERE WHAT IT READS IS OF BULK AT MOST 1048576: true; the input reads as it did. -/
def fnExactIdentityMatrixUptoRow : OpenClaim := { program := "ytmkoafebmfoeaaa", sum := "772b13e95096e15bcf0ab624ff1cd0b723c711c41bddc45c6a86bf52c8972d1d", func := "loop.example/g00822/laws.FnExactIdentityMatrix", spec := "fnExactIdentityMatrix", unfollowed := true, recurses := true, apart := false, narrowed := true }
def FnExactIdentityMatrixUptoSaid : Prop := fnExactIdentityMatrixUptoRow.holds Try.pinned (OpenSpec.upto fnExactIdentityMatrixSpec)

/-- 'laws.FnExactStationOk', WHERE WHAT IT READS IS OF BULK AT MOST 1048576: true; the input reads as it did. -/
def fnExactStationOkUptoRow : OpenClaim := { program := "ytmkoafebmfoeaaa", sum := "772b13e95096e15bcf0ab624ff1cd0b723c711c41bddc45c6a86bf52c8972d1d", func := "loop.example/g00822/laws.FnExactStationOk", spec := "fnExactStationOk", apart := false, narrowed := true }
def FnExactStationOkUptoSaid : Prop := fnExactStationOkUptoRow.holds Try.pinned (OpenSpec.upto fnExactStationOkSpec)

/-- 'laws.FnExactMatrixOk', WHERE WHAT IT READS IS OF BULK AT MOST 1048576: true; the input reads as it did. -/
def fnExactMatrixOkUptoRow : OpenClaim := { program := "ytmkoafebmfoeaaa", sum := "772b13e95096e15bcf0ab624ff1cd0b723c711c41bddc45c6a86bf52c8972d1d", func := "loop.example/g00822/laws.FnExactMatrixOk", spec := "fnExactMatrixOk", apart := false, narrowed := true }
def FnExactMatrixOkUptoSaid : Prop := fnExactMatrixOkUptoRow.holds Try.pinned (OpenSpec.upto fnExactMatrixOkSpec)

/-- 'laws.FnExactDiagonalOf', WHERE WHAT IT READS IS OF BULK AT MOST 1048576: true; the input reads as it did. -/
def fnExactDiagonalOfUptoRow : OpenClaim := { program := "ytmkoafebmfoeaaa", sum := "772b13e95096e15bcf0ab624ff1cd0b723c711c41bddc45c6a86bf52c8972d1d", func := "loop.example/g00822/laws.FnExactDiagonalOf", spec := "fnExactDiagonalOf", apart := false, narrowed := true }
def FnExactDiagonalOfUptoSaid : Prop := fnExactDiagonalOfUptoRow.holds Try.pinned (OpenSpec.upto fnExactDiagonalOfSpec)

/-- 'laws.FnExactCellAt', WHERE WHAT IT READS IS OF BULK AT MOST 1048576: true; the input reads as it did. -/
def fnExactCellAtUptoRow : OpenClaim := { program := "ytmkoafebmfoeaaa", sum := "772b13e95096e15bcf0ab624ff1cd0b723c711c41bddc45c6a86bf52c8972d1d", func := "loop.example/g00822/laws.FnExactCellAt", spec := "fnExactCellAt", apart := false, narrowed := true }
def FnExactCellAtUptoSaid : Prop := fnExactCellAtUptoRow.holds Try.pinned (OpenSpec.upto fnExactCellAtSpec)

/-- 'laws.FnExactNetworkOk', WHERE WHAT IT READS IS OF BULK AT MOST 1048576: true; the input reads as it did. -/
def fnExactNetworkOkUptoRow : OpenClaim := { program := "ytmkoafebmfoeaaa", sum := "772b13e95096e15bcf0ab624ff1cd0b723c711c41bddc45c6a86bf52c8972d1d", func := "loop.example/g00822/laws.FnExactNetworkOk", spec := "fnExactNetworkOk", apart := false, narrowed := true }
def FnExactNetworkOkUptoSaid : Prop := fnExactNetworkOkUptoRow.holds Try.pinned (OpenSpec.upto fnExactNetworkOkSpec)

/-- 'laws.FnExactRowOf', WHERE WHAT IT READS IS OF BULK AT MOST 1048576: true; the input reads as it did. -/
def fnExactRowOfUptoRow : OpenClaim := { program := "ytmkoafebmfoeaaa", sum := "772b13e95096e15bcf0ab624ff1cd0b723c711c41bddc45c6a86bf52c8972d1d", func := "loop.example/g00822/laws.FnExactRowOf", spec := "fnExactRowOf", apart := false, narrowed := true }
def FnExactRowOfUptoSaid : Prop := fnExactRowOfUptoRow.holds Try.pinned (OpenSpec.upto fnExactRowOfSpec)

/-- 'laws.FnExactIsSymmetric', WHERE WHAT IT READS IS OF BULK AT MOST 1048576: true; the input reads as it did. -/
def fnExactIsSymmetricUptoRow : OpenClaim := { program := "ytmkoafebmfoeaaa", sum := "772b13e95096e15bcf0ab624ff1cd0b723c711c41bddc45c6a86bf52c8972d1d", func := "loop.example/g00822/laws.FnExactIsSymmetric", spec := "fnExactIsSymmetric", unfollowed := true, recurses := true, apart := false, narrowed := true }
def FnExactIsSymmetricUptoSaid : Prop := fnExactIsSymmetricUptoRow.holds Try.pinned (OpenSpec.upto fnExactIsSymmetricSpec)

end Rows
end Go.Proofs.Ytmkoafebmfoeaaa
