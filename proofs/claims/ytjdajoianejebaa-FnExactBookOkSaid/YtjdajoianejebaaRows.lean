/-
  No cell of these rows narrows 'for every input' (looked for: loops, veiled, ifaces, maps, wideKeys, modest, calm, conditions, laid).
  DERIVED. THE GIVEN ROWS OF THIS SEAT. 12 by the template 'for every input the law returns true; each argument reads behind the call as it read before'; 0 by the template 'total and deterministic' (their statements: YtjdajoianejebaaTotals.lean).
  GIVEN WITH THE SEED: the statements are not yours to turn. If you find one false, say at which input.
  Laid BY PROGRAM, IN A SANDBOX (cutbox-rows.mjs): the forced cells as the released guide's own fill.sh prints them over the translation 68983ecd40c9516b… (all of the seat's roots in one cut). By AI agents, Wed Nov 11 2026. No macro, syntax, notation, axiom, sorry.
-/
import Derived.Test.YtjdajoianejebaaChecked
import GoSem.Claim
import GoSem.ClaimJoined
import GoSem.ClaimMapViews
import Derived.JoinedTies
import Derived.KernelRfl
namespace Go.Proofs.Ytjdajoianejebaa
/- THE CELL 'sum', in the pinned program and in every row, IS THE sha256 OF THE DUMP (.gsa) THAT YtjdajoianejebaaProg.lean LOADS. Nothing in Lean hashes anything: it is a label: what it is worth is what the hold of that sum in a sandbox is worth. -/
noncomputable def Try.pinned : Pinned := { name := "ytjdajoianejebaa", sum := "68983ecd40c9516bd9623242a17149b173d36a93d28dd0d16dd03508dbf15969", checked := Try.checked }
namespace Rows
def none {H : Type} : Left H := { results := [], args := [] }

/-- 'laws.FnExactUnitOf': WHATEVER THE INPUT: true; the input reads as it did. -/
def fnExactUnitOfSpec : ChangeSpec := { name := "fnExactUnitOf", fn := fun _ => fun
  | [d] => { results := [.lit (.bool true)], args := [d] }
  | _ => none }
def fnExactUnitOfRow : OpenClaim := { program := "ytjdajoianejebaa", sum := "68983ecd40c9516bd9623242a17149b173d36a93d28dd0d16dd03508dbf15969", func := "loop.example/g00822/laws.FnExactUnitOf", spec := "fnExactUnitOf", apart := false }
def FnExactUnitOfSaid : Prop := fnExactUnitOfRow.holds Try.pinned (OpenSpec.ofChange fnExactUnitOfSpec)

/-- ITS FALSE NEIGHBOUR: 'it returns false'. Refute it at one input. -/
def fnExactUnitOfWrong : ChangeSpec := { name := "fnExactUnitOf", fn := fun _ => fun
  | [d] => { results := [.lit (.bool false)], args := [d] }
  | _ => none }
def FnExactUnitOfWrongFalsely : Prop := fnExactUnitOfRow.holds Try.pinned (OpenSpec.ofChange fnExactUnitOfWrong)

/-- 'laws.FnExactLengthAlong': WHATEVER THE INPUT: true; the input reads as it did. -/
def fnExactLengthAlongSpec : ChangeSpec := { name := "fnExactLengthAlong", fn := fun _ => fun
  | [d1, d2, d3] => { results := [.lit (.bool true)], args := [d1, d2, d3] }
  | _ => none }
def fnExactLengthAlongRow : OpenClaim := { program := "ytjdajoianejebaa", sum := "68983ecd40c9516bd9623242a17149b173d36a93d28dd0d16dd03508dbf15969", func := "loop.example/g00822/laws.FnExactLengthAlong", spec := "fnExactLengthAlong", apart := false }
def FnExactLengthAlongSaid : Prop := fnExactLengthAlongRow.holds Try.pinned (OpenSpec.ofChange fnExactLengthAlongSpec)

/-- ITS FALSE NEIGHBOUR: 'it returns false'. Refute it at one input. -/
def fnExactLengthAlongWrong : ChangeSpec := { name := "fnExactLengthAlong", fn := fun _ => fun
  | [d1, d2, d3] => { results := [.lit (.bool false)], args := [d1, d2, d3] }
  | _ => none }
def FnExactLengthAlongWrongFalsely : Prop := fnExactLengthAlongRow.holds Try.pinned (OpenSpec.ofChange fnExactLengthAlongWrong)

/-- 'laws.FnExactOffsetFrom': WHATEVER THE INPUT: true; the input reads as it did. -/
def fnExactOffsetFromSpec : ChangeSpec := { name := "fnExactOffsetFrom", fn := fun _ => fun
  | [d1, d2, d3] => { results := [.lit (.bool true)], args := [d1, d2, d3] }
  | _ => none }
def fnExactOffsetFromRow : OpenClaim := { program := "ytjdajoianejebaa", sum := "68983ecd40c9516bd9623242a17149b173d36a93d28dd0d16dd03508dbf15969", func := "loop.example/g00822/laws.FnExactOffsetFrom", spec := "fnExactOffsetFrom", apart := false }
def FnExactOffsetFromSaid : Prop := fnExactOffsetFromRow.holds Try.pinned (OpenSpec.ofChange fnExactOffsetFromSpec)

/-- ITS FALSE NEIGHBOUR: 'it returns false'. Refute it at one input. -/
def fnExactOffsetFromWrong : ChangeSpec := { name := "fnExactOffsetFrom", fn := fun _ => fun
  | [d1, d2, d3] => { results := [.lit (.bool false)], args := [d1, d2, d3] }
  | _ => none }
def FnExactOffsetFromWrongFalsely : Prop := fnExactOffsetFromRow.holds Try.pinned (OpenSpec.ofChange fnExactOffsetFromWrong)

/-- 'laws.FnExactObservationsOk': WHATEVER THE INPUT: true; the input reads as it did. -/
def fnExactObservationsOkSpec : ChangeSpec := { name := "fnExactObservationsOk", fn := fun _ => fun
  | [d1, d2] => { results := [.lit (.bool true)], args := [d1, d2] }
  | _ => none }
def fnExactObservationsOkRow : OpenClaim := { program := "ytjdajoianejebaa", sum := "68983ecd40c9516bd9623242a17149b173d36a93d28dd0d16dd03508dbf15969", func := "loop.example/g00822/laws.FnExactObservationsOk", spec := "fnExactObservationsOk", apart := false }
def FnExactObservationsOkSaid : Prop := fnExactObservationsOkRow.holds Try.pinned (OpenSpec.ofChange fnExactObservationsOkSpec)

/-- ITS FALSE NEIGHBOUR: 'it returns false'. Refute it at one input. -/
def fnExactObservationsOkWrong : ChangeSpec := { name := "fnExactObservationsOk", fn := fun _ => fun
  | [d1, d2] => { results := [.lit (.bool false)], args := [d1, d2] }
  | _ => none }
def FnExactObservationsOkWrongFalsely : Prop := fnExactObservationsOkRow.holds Try.pinned (OpenSpec.ofChange fnExactObservationsOkWrong)

/-- 'laws.FnNull': WHATEVER THE INPUT: true; the input reads as it did. -/
def fnNullSpec : ChangeSpec := { name := "fnNull", fn := fun _ => fun
  | [d] => { results := [.lit (.bool true)], args := [d] }
  | _ => none }
def fnNullRow : OpenClaim := { program := "ytjdajoianejebaa", sum := "68983ecd40c9516bd9623242a17149b173d36a93d28dd0d16dd03508dbf15969", func := "loop.example/g00822/laws.FnNull", spec := "fnNull", apart := false }
def FnNullSaid : Prop := fnNullRow.holds Try.pinned (OpenSpec.ofChange fnNullSpec)

/-- ITS FALSE NEIGHBOUR: 'it returns false'. Refute it at one input. -/
def fnNullWrong : ChangeSpec := { name := "fnNull", fn := fun _ => fun
  | [d] => { results := [.lit (.bool false)], args := [d] }
  | _ => none }
def FnNullWrongFalsely : Prop := fnNullRow.holds Try.pinned (OpenSpec.ofChange fnNullWrong)

/-- 'laws.FnExactBookOk': WHATEVER THE INPUT: true; the input reads as it did. -/
def fnExactBookOkSpec : ChangeSpec := { name := "fnExactBookOk", fn := fun _ => fun
  | [d] => { results := [.lit (.bool true)], args := [d] }
  | _ => none }
def fnExactBookOkRow : OpenClaim := { program := "ytjdajoianejebaa", sum := "68983ecd40c9516bd9623242a17149b173d36a93d28dd0d16dd03508dbf15969", func := "loop.example/g00822/laws.FnExactBookOk", spec := "fnExactBookOk", apart := false }
def FnExactBookOkSaid : Prop := fnExactBookOkRow.holds Try.pinned (OpenSpec.ofChange fnExactBookOkSpec)

/-- ITS FALSE NEIGHBOUR: 'it returns false'. Refute it at one input. -/
def fnExactBookOkWrong : ChangeSpec := { name := "fnExactBookOk", fn := fun _ => fun
  | [d] => { results := [.lit (.bool false)], args := [d] }
  | _ => none }
def FnExactBookOkWrongFalsely : Prop := fnExactBookOkRow.holds Try.pinned (OpenSpec.ofChange fnExactBookOkWrong)

/-- 'laws.FnNetworks': WHATEVER THE INPUT: true; the input reads as it did. -/
def fnNetworksSpec : ChangeSpec := { name := "fnNetworks", fn := fun _ => fun
  | [d] => { results := [.lit (.bool true)], args := [d] }
  | _ => none }
def fnNetworksRow : OpenClaim := { program := "ytjdajoianejebaa", sum := "68983ecd40c9516bd9623242a17149b173d36a93d28dd0d16dd03508dbf15969", func := "loop.example/g00822/laws.FnNetworks", spec := "fnNetworks", unfollowed := true, recurses := true, apart := false }
def FnNetworksSaid : Prop := fnNetworksRow.holds Try.pinned (OpenSpec.ofChange fnNetworksSpec)

/-- ITS FALSE NEIGHBOUR: 'it returns false'. Refute it at one input. -/
def fnNetworksWrong : ChangeSpec := { name := "fnNetworks", fn := fun _ => fun
  | [d] => { results := [.lit (.bool false)], args := [d] }
  | _ => none }
def FnNetworksWrongFalsely : Prop := fnNetworksRow.holds Try.pinned (OpenSpec.ofChange fnNetworksWrong)

/-- 'laws.FnExactAddMatrices': WHATEVER THE INPUT: true; the input reads as it did. -/
def fnExactAddMatricesSpec : ChangeSpec := { name := "fnExactAddMatrices", fn := fun _ => fun
  | [d1, d2] => { results := [.lit (.bool true)], args := [d1, d2] }
  | _ => none }
def fnExactAddMatricesRow : OpenClaim := { program := "ytjdajoianejebaa", sum := "68983ecd40c9516bd9623242a17149b173d36a93d28dd0d16dd03508dbf15969", func := "loop.example/g00822/laws.FnExactAddMatrices", spec := "fnExactAddMatrices", unfollowed := true, recurses := true, apart := false }
def FnExactAddMatricesSaid : Prop := fnExactAddMatricesRow.holds Try.pinned (OpenSpec.ofChange fnExactAddMatricesSpec)

/-- ITS FALSE NEIGHBOUR: 'it returns false'. Refute it at one input. -/
def fnExactAddMatricesWrong : ChangeSpec := { name := "fnExactAddMatrices", fn := fun _ => fun
  | [d1, d2] => { results := [.lit (.bool false)], args := [d1, d2] }
  | _ => none }
def FnExactAddMatricesWrongFalsely : Prop := fnExactAddMatricesRow.holds Try.pinned (OpenSpec.ofChange fnExactAddMatricesWrong)

/-- 'laws.FnExactTraceOf': WHATEVER THE INPUT: true; the input reads as it did. -/
def fnExactTraceOfSpec : ChangeSpec := { name := "fnExactTraceOf", fn := fun _ => fun
  | [d] => { results := [.lit (.bool true)], args := [d] }
  | _ => none }
def fnExactTraceOfRow : OpenClaim := { program := "ytjdajoianejebaa", sum := "68983ecd40c9516bd9623242a17149b173d36a93d28dd0d16dd03508dbf15969", func := "loop.example/g00822/laws.FnExactTraceOf", spec := "fnExactTraceOf", apart := false }
def FnExactTraceOfSaid : Prop := fnExactTraceOfRow.holds Try.pinned (OpenSpec.ofChange fnExactTraceOfSpec)

/-- ITS FALSE NEIGHBOUR: 'it returns false'. Refute it at one input. -/
def fnExactTraceOfWrong : ChangeSpec := { name := "fnExactTraceOf", fn := fun _ => fun
  | [d] => { results := [.lit (.bool false)], args := [d] }
  | _ => none }
def FnExactTraceOfWrongFalsely : Prop := fnExactTraceOfRow.holds Try.pinned (OpenSpec.ofChange fnExactTraceOfWrong)

/-- 'laws.FnExactHalfTangent': WHATEVER THE INPUT: true; the input reads as it did. -/
def fnExactHalfTangentSpec : ChangeSpec := { name := "fnExactHalfTangent", fn := fun _ => fun
  | [d1, d2] => { results := [.lit (.bool true)], args := [d1, d2] }
  | _ => none }
def fnExactHalfTangentRow : OpenClaim := { program := "ytjdajoianejebaa", sum := "68983ecd40c9516bd9623242a17149b173d36a93d28dd0d16dd03508dbf15969", func := "loop.example/g00822/laws.FnExactHalfTangent", spec := "fnExactHalfTangent", apart := false }
def FnExactHalfTangentSaid : Prop := fnExactHalfTangentRow.holds Try.pinned (OpenSpec.ofChange fnExactHalfTangentSpec)

/-- ITS FALSE NEIGHBOUR: 'it returns false'. Refute it at one input. -/
def fnExactHalfTangentWrong : ChangeSpec := { name := "fnExactHalfTangent", fn := fun _ => fun
  | [d1, d2] => { results := [.lit (.bool false)], args := [d1, d2] }
  | _ => none }
def FnExactHalfTangentWrongFalsely : Prop := fnExactHalfTangentRow.holds Try.pinned (OpenSpec.ofChange fnExactHalfTangentWrong)

/-- 'laws.FnExactApplyMatrix': WHATEVER THE INPUT: true; the input reads as it did. -/
def fnExactApplyMatrixSpec : ChangeSpec := { name := "fnExactApplyMatrix", fn := fun _ => fun
  | [d1, d2] => { results := [.lit (.bool true)], args := [d1, d2] }
  | _ => none }
def fnExactApplyMatrixRow : OpenClaim := { program := "ytjdajoianejebaa", sum := "68983ecd40c9516bd9623242a17149b173d36a93d28dd0d16dd03508dbf15969", func := "loop.example/g00822/laws.FnExactApplyMatrix", spec := "fnExactApplyMatrix", apart := false }
def FnExactApplyMatrixSaid : Prop := fnExactApplyMatrixRow.holds Try.pinned (OpenSpec.ofChange fnExactApplyMatrixSpec)

/-- ITS FALSE NEIGHBOUR: 'it returns false'. Refute it at one input. -/
def fnExactApplyMatrixWrong : ChangeSpec := { name := "fnExactApplyMatrix", fn := fun _ => fun
  | [d1, d2] => { results := [.lit (.bool false)], args := [d1, d2] }
  | _ => none }
def FnExactApplyMatrixWrongFalsely : Prop := fnExactApplyMatrixRow.holds Try.pinned (OpenSpec.ofChange fnExactApplyMatrixWrong)

/-- 'laws.FnExactMultiply': WHATEVER THE INPUT: true; the input reads as it did. -/
def fnExactMultiplySpec : ChangeSpec := { name := "fnExactMultiply", fn := fun _ => fun
  | [d1, d2] => { results := [.lit (.bool true)], args := [d1, d2] }
  | _ => none }
def fnExactMultiplyRow : OpenClaim := { program := "ytjdajoianejebaa", sum := "68983ecd40c9516bd9623242a17149b173d36a93d28dd0d16dd03508dbf15969", func := "loop.example/g00822/laws.FnExactMultiply", spec := "fnExactMultiply", unfollowed := true, recurses := true, apart := false }
def FnExactMultiplySaid : Prop := fnExactMultiplyRow.holds Try.pinned (OpenSpec.ofChange fnExactMultiplySpec)

/-- ITS FALSE NEIGHBOUR: 'it returns false'. Refute it at one input. -/
def fnExactMultiplyWrong : ChangeSpec := { name := "fnExactMultiply", fn := fun _ => fun
  | [d1, d2] => { results := [.lit (.bool false)], args := [d1, d2] }
  | _ => none }
def FnExactMultiplyWrongFalsely : Prop := fnExactMultiplyRow.holds Try.pinned (OpenSpec.ofChange fnExactMultiplyWrong)

/- THE SECOND FORM. 'bulk': how many values and letters a reading holds, each counted each time it is reached (what is shared counts as often as it is met; a slice's spare places count too). A statement '..UptoSaid' is the law's where the arguments, and the package variables that the reading takes, are together of bulk at most 1048576: NARROWER than '..Said'. Prove '..Said' where nothing that the law and all that it calls make is longer than what came in: it says more and counts as full. Else prove '..UptoSaid'. A law counts once. -/
mutual
def uptoBulk {H : Type} : DataW H → Nat
  | .lit (.string bytes) => bytes.length + 1
  | .lit _ => 1
  | .nil => 1
  | .ptr d => uptoBulk d + 1
  | .slice elems spare => uptoBulkAll elems + uptoBulkAll spare + 1
  | .agg parts => uptoBulkAll parts + 1
  | .iface _ d => uptoBulk d + 1
  | .map entries => uptoBulkEntries entries + 1
  | .held _ => 1
def uptoBulkAll {H : Type} : List (DataW H) → Nat
  | [] => 0
  | d :: r => uptoBulk d + uptoBulkAll r
def uptoBulkEntries {H : Type} : List (Lit × DataW H) → Nat
  | [] => 0
  | x :: r => uptoBulkEntry x + uptoBulkEntries r
def uptoBulkEntry {H : Type} : Lit × DataW H → Nat
  | (.string bytes, d) => bytes.length + uptoBulk d + 1
  | (_, d) => uptoBulk d + 1
 end
def uptoSmall : (H : Type) → List (DataW H) → Bool := fun _ ds => decide (uptoBulkAll ds ≤ 1048576)
def OpenSpec.upto (s : _root_.Go.ChangeSpec) : _root_.Go.OpenSpec := { _root_.Go.OpenSpec.ofChange s with cond := some uptoSmall }

/-- 'laws.FnExactUnitOf', WHERE WHAT IT READS IS OF BULK AT MOST 1048576: true; the input reads as it did. -/
def fnExactUnitOfUptoRow : OpenClaim := { program := "ytjdajoianejebaa", sum := "68983ecd40c9516bd9623242a17149b173d36a93d28dd0d16dd03508dbf15969", func := "loop.example/g00822/laws.FnExactUnitOf", spec := "fnExactUnitOf", apart := false, narrowed := true }
def FnExactUnitOfUptoSaid : Prop := fnExactUnitOfUptoRow.holds Try.pinned (OpenSpec.upto fnExactUnitOfSpec)

/-- 'laws.FnExactLengthAlong', WHERE WHAT IT READS IS OF BULK AT MOST 1048576: true; the input reads as it did. -/
def fnExactLengthAlongUptoRow : OpenClaim := { program := "ytjdajoianejebaa", sum := "68983ecd40c9516bd9623242a17149b173d36a93d28dd0d16dd03508dbf15969", func := "loop.example/g00822/laws.FnExactLengthAlong", spec := "fnExactLengthAlong", apart := false, narrowed := true }
def FnExactLengthAlongUptoSaid : Prop := fnExactLengthAlongUptoRow.holds Try.pinned (OpenSpec.upto fnExactLengthAlongSpec)

/-- 'laws.FnExactOffsetFrom', WHERE WHAT IT READS IS OF BULK AT MOST 1048576: true; the input reads as it did. -/
def fnExactOffsetFromUptoRow : OpenClaim := { program := "ytjdajoianejebaa", sum := "68983ecd40c9516bd9623242a17149b173d36a93d28dd0d16dd03508dbf15969", func := "loop.example/g00822/laws.FnExactOffsetFrom", spec := "fnExactOffsetFrom", apart := false, narrowed := true }
def FnExactOffsetFromUptoSaid : Prop := fnExactOffsetFromUptoRow.holds Try.pinned (OpenSpec.upto fnExactOffsetFromSpec)

/-- 'laws.FnExactObservationsOk', WHERE WHAT IT READS IS OF BULK AT MOST 1048576: true; the input reads as it did. -/
def fnExactObservationsOkUptoRow : OpenClaim := { program := "ytjdajoianejebaa", sum := "68983ecd40c9516bd9623242a17149b173d36a93d28dd0d16dd03508dbf15969", func := "loop.example/g00822/laws.FnExactObservationsOk", spec := "fnExactObservationsOk", apart := false, narrowed := true }
def FnExactObservationsOkUptoSaid : Prop := fnExactObservationsOkUptoRow.holds Try.pinned (OpenSpec.upto fnExactObservationsOkSpec)

/-- 'laws.FnNull', WHERE WHAT IT READS IS OF BULK AT MOST 1048576: true; the input reads as it did. -/
def fnNullUptoRow : OpenClaim := { program := "ytjdajoianejebaa", sum := "68983ecd40c9516bd9623242a17149b173d36a93d28dd0d16dd03508dbf15969", func := "loop.example/g00822/laws.FnNull", spec := "fnNull", apart := false, narrowed := true }
def FnNullUptoSaid : Prop := fnNullUptoRow.holds Try.pinned (OpenSpec.upto fnNullSpec)

/-- 'laws.FnExactBookOk', WHERE WHAT IT READS IS OF BULK AT MOST 1048576: true; the input reads as it did. -/
def fnExactBookOkUptoRow : OpenClaim := { program := "ytjdajoianejebaa", sum := "68983ecd40c9516bd9623242a17149b173d36a93d28dd0d16dd03508dbf15969", func := "loop.example/g00822/laws.FnExactBookOk", spec := "fnExactBookOk", apart := false, narrowed := true }
def FnExactBookOkUptoSaid : Prop := fnExactBookOkUptoRow.holds Try.pinned (OpenSpec.upto fnExactBookOkSpec)

/-- 'laws.FnNetworks', WHERE WHAT IT READS IS OF BULK AT MOST 1048576: true; the input reads as it did. -/
def fnNetworksUptoRow : OpenClaim := { program := "ytjdajoianejebaa", sum := "68983ecd40c9516bd9623242a17149b173d36a93d28dd0d16dd03508dbf15969", func := "loop.example/g00822/laws.FnNetworks", spec := "fnNetworks", unfollowed := true, recurses := true, apart := false, narrowed := true }
def FnNetworksUptoSaid : Prop := fnNetworksUptoRow.holds Try.pinned (OpenSpec.upto fnNetworksSpec)

/-- 'laws.FnExactAddMatrices', WHERE WHAT IT READS IS OF BULK AT MOST 1048576: true; the input reads as it did. -/
def fnExactAddMatricesUptoRow : OpenClaim := { program := "ytjdajoianejebaa", sum := "68983ecd40c9516bd9623242a17149b173d36a93d28dd0d16dd03508dbf15969", func := "loop.example/g00822/laws.FnExactAddMatrices", spec := "fnExactAddMatrices", unfollowed := true, recurses := true, apart := false, narrowed := true }
def FnExactAddMatricesUptoSaid : Prop := fnExactAddMatricesUptoRow.holds Try.pinned (OpenSpec.upto fnExactAddMatricesSpec)

/-- 'laws.FnExactTraceOf', WHERE WHAT IT READS IS OF BULK AT MOST 1048576: true; the input reads as it did. -/
def fnExactTraceOfUptoRow : OpenClaim := { program := "ytjdajoianejebaa", sum := "68983ecd40c9516bd9623242a17149b173d36a93d28dd0d16dd03508dbf15969", func := "loop.example/g00822/laws.FnExactTraceOf", spec := "fnExactTraceOf", apart := false, narrowed := true }
def FnExactTraceOfUptoSaid : Prop := fnExactTraceOfUptoRow.holds Try.pinned (OpenSpec.upto fnExactTraceOfSpec)

/-- 'laws.FnExactHalfTangent', WHERE WHAT IT READS IS OF BULK AT MOST 1048576: true; the input reads as it did. -/
def fnExactHalfTangentUptoRow : OpenClaim := { program := "ytjdajoianejebaa", sum := "68983ecd40c9516bd9623242a17149b173d36a93d28dd0d16dd03508dbf15969", func := "loop.example/g00822/laws.FnExactHalfTangent", spec := "fnExactHalfTangent", apart := false, narrowed := true }
def FnExactHalfTangentUptoSaid : Prop := fnExactHalfTangentUptoRow.holds Try.pinned (OpenSpec.upto fnExactHalfTangentSpec)

/-- 'laws.FnExactApplyMatrix', WHERE WHAT IT READS IS OF BULK AT MOST 1048576: true; the input reads as it did. -/
def fnExactApplyMatrixUptoRow : OpenClaim := { program := "ytjdajoianejebaa", sum := "68983ecd40c9516bd9623242a17149b173d36a93d28dd0d16dd03508dbf15969", func := "loop.example/g00822/laws.FnExactApplyMatrix", spec := "fnExactApplyMatrix", apart := false, narrowed := true }
def FnExactApplyMatrixUptoSaid : Prop := fnExactApplyMatrixUptoRow.holds Try.pinned (OpenSpec.upto fnExactApplyMatrixSpec)

/-- 'laws.FnExactMultiply', WHERE WHAT IT READS IS OF BULK AT MOST 1048576: true; the input reads as it did. -/
def fnExactMultiplyUptoRow : OpenClaim := { program := "ytjdajoianejebaa", sum := "68983ecd40c9516bd9623242a17149b173d36a93d28dd0d16dd03508dbf15969", func := "loop.example/g00822/laws.FnExactMultiply", spec := "fnExactMultiply", unfollowed := true, recurses := true, apart := false, narrowed := true }
def FnExactMultiplyUptoSaid : Prop := fnExactMultiplyUptoRow.holds Try.pinned (OpenSpec.upto fnExactMultiplySpec)

end Rows
end Go.Proofs.Ytjdajoianejebaa
