/-
  No cell of these rows narrows 'for every input' (looked for: loops, veiled, ifaces, maps, wideKeys, modest, calm, conditions, laid).
  DERIVED. THE GIVEN ROWS OF THIS SEAT. 7 by the template 'for every input the law returns true; each argument reads behind the call as it read before'; 0 by the template 'total and deterministic' (their statements: YtakkbpieoceodaaTotals.lean).
  GIVEN WITH THE SEED: the statements are not yours to turn. If you find one false, say at which input.
  Laid BY PROGRAM, IN A SANDBOX (cutbox-rows.mjs): the forced cells as the released guide's own fill.sh prints them over the translation 361fc0409b9ea8a0… (all of the seat's roots in one cut). By AI agents, Wed Nov 11 2026. No macro, syntax, notation, axiom, sorry.
-/
import Derived.Test.YtakkbpieoceodaaChecked
import GoSem.Claim
import GoSem.ClaimJoined
import GoSem.ClaimMapViews
import Derived.JoinedTies
import Derived.KernelRfl
namespace Go.Proofs.Ytakkbpieoceodaa
/- THE CELL 'sum', in the pinned program and in every row, IS THE sha256 OF THE DUMP (.gsa) THAT YtakkbpieoceodaaProg.lean LOADS. Nothing in Lean hashes anything: it is a label: what it is worth is what the hold of that sum in a sandbox is worth. -/
noncomputable def Try.pinned : Pinned := { name := "ytakkbpieoceodaa", sum := "361fc0409b9ea8a09592ed3ca3bbd5c14d80616ce0055a3d0d5539f53e3f6ad7", checked := Try.checked }
namespace Rows
def none {H : Type} : Left H := { results := [], args := [] }

/-- 'laws.FnExactIdentityMatrix': WHATEVER THE INPUT: true; the input reads as it did. -/
def fnExactIdentityMatrixSpec : ChangeSpec := { name := "fnExactIdentityMatrix", fn := fun _ => fun
  | [d] => { results := [.lit (.bool true)], args := [d] }
  | _ => none }
def fnExactIdentityMatrixRow : OpenClaim := { program := "ytakkbpieoceodaa", sum := "361fc0409b9ea8a09592ed3ca3bbd5c14d80616ce0055a3d0d5539f53e3f6ad7", func := "loop.example/g00822/laws.FnExactIdentityMatrix", spec := "fnExactIdentityMatrix", unfollowed := true, recurses := true, apart := false }
def FnExactIdentityMatrixSaid : Prop := fnExactIdentityMatrixRow.holds Try.pinned (OpenSpec.ofChange fnExactIdentityMatrixSpec)

/-- ITS FALSE NEIGHBOUR: 'it returns false'. Refute it at one input. -/
def fnExactIdentityMatrixWrong : ChangeSpec := { name := "fnExactIdentityMatrix", fn := fun _ => fun
  | [d] => { results := [.lit (.bool false)], args := [d] }
  | _ => none }
def FnExactIdentityMatrixWrongFalsely : Prop := fnExactIdentityMatrixRow.holds Try.pinned (OpenSpec.ofChange fnExactIdentityMatrixWrong)

/-- 'laws.FnExactIsSymmetric': WHATEVER THE INPUT: true; the input reads as it did. -/
def fnExactIsSymmetricSpec : ChangeSpec := { name := "fnExactIsSymmetric", fn := fun _ => fun
  | [d] => { results := [.lit (.bool true)], args := [d] }
  | _ => none }
def fnExactIsSymmetricRow : OpenClaim := { program := "ytakkbpieoceodaa", sum := "361fc0409b9ea8a09592ed3ca3bbd5c14d80616ce0055a3d0d5539f53e3f6ad7", func := "loop.example/g00822/laws.FnExactIsSymmetric", spec := "fnExactIsSymmetric", unfollowed := true, recurses := true, apart := false }
def FnExactIsSymmetricSaid : Prop := fnExactIsSymmetricRow.holds Try.pinned (OpenSpec.ofChange fnExactIsSymmetricSpec)

/-- ITS FALSE NEIGHBOUR: 'it returns false'. Refute it at one input. -/
def fnExactIsSymmetricWrong : ChangeSpec := { name := "fnExactIsSymmetric", fn := fun _ => fun
  | [d] => { results := [.lit (.bool false)], args := [d] }
  | _ => none }
def FnExactIsSymmetricWrongFalsely : Prop := fnExactIsSymmetricRow.holds Try.pinned (OpenSpec.ofChange fnExactIsSymmetricWrong)

/-- 'laws.FnExactTranspose': WHATEVER THE INPUT: true; the input reads as it did. -/
def fnExactTransposeSpec : ChangeSpec := { name := "fnExactTranspose", fn := fun _ => fun
  | [d] => { results := [.lit (.bool true)], args := [d] }
  | _ => none }
def fnExactTransposeRow : OpenClaim := { program := "ytakkbpieoceodaa", sum := "361fc0409b9ea8a09592ed3ca3bbd5c14d80616ce0055a3d0d5539f53e3f6ad7", func := "loop.example/g00822/laws.FnExactTranspose", spec := "fnExactTranspose", unfollowed := true, recurses := true, apart := false }
def FnExactTransposeSaid : Prop := fnExactTransposeRow.holds Try.pinned (OpenSpec.ofChange fnExactTransposeSpec)

/-- ITS FALSE NEIGHBOUR: 'it returns false'. Refute it at one input. -/
def fnExactTransposeWrong : ChangeSpec := { name := "fnExactTranspose", fn := fun _ => fun
  | [d] => { results := [.lit (.bool false)], args := [d] }
  | _ => none }
def FnExactTransposeWrongFalsely : Prop := fnExactTransposeRow.holds Try.pinned (OpenSpec.ofChange fnExactTransposeWrong)

/-- 'laws.FnExactSubmatrix': WHATEVER THE INPUT: true; the input reads as it did. -/
def fnExactSubmatrixSpec : ChangeSpec := { name := "fnExactSubmatrix", fn := fun _ => fun
  | [d1, d2] => { results := [.lit (.bool true)], args := [d1, d2] }
  | _ => none }
def fnExactSubmatrixRow : OpenClaim := { program := "ytakkbpieoceodaa", sum := "361fc0409b9ea8a09592ed3ca3bbd5c14d80616ce0055a3d0d5539f53e3f6ad7", func := "loop.example/g00822/laws.FnExactSubmatrix", spec := "fnExactSubmatrix", unfollowed := true, recurses := true, apart := false }
def FnExactSubmatrixSaid : Prop := fnExactSubmatrixRow.holds Try.pinned (OpenSpec.ofChange fnExactSubmatrixSpec)

/-- ITS FALSE NEIGHBOUR: 'it returns false'. Refute it at one input. -/
def fnExactSubmatrixWrong : ChangeSpec := { name := "fnExactSubmatrix", fn := fun _ => fun
  | [d1, d2] => { results := [.lit (.bool false)], args := [d1, d2] }
  | _ => none }
def FnExactSubmatrixWrongFalsely : Prop := fnExactSubmatrixRow.holds Try.pinned (OpenSpec.ofChange fnExactSubmatrixWrong)

/-- 'laws.FnExactAddMatrices': WHATEVER THE INPUT: true; the input reads as it did. -/
def fnExactAddMatricesSpec : ChangeSpec := { name := "fnExactAddMatrices", fn := fun _ => fun
  | [d1, d2] => { results := [.lit (.bool true)], args := [d1, d2] }
  | _ => none }
def fnExactAddMatricesRow : OpenClaim := { program := "ytakkbpieoceodaa", sum := "361fc0409b9ea8a09592ed3ca3bbd5c14d80616ce0055a3d0d5539f53e3f6ad7", func := "loop.example/g00822/laws.FnExactAddMatrices", spec := "fnExactAddMatrices", unfollowed := true, recurses := true, apart := false }
def FnExactAddMatricesSaid : Prop := fnExactAddMatricesRow.holds Try.pinned (OpenSpec.ofChange fnExactAddMatricesSpec)

/-- ITS FALSE NEIGHBOUR: 'it returns false'. Refute it at one input. -/
def fnExactAddMatricesWrong : ChangeSpec := { name := "fnExactAddMatrices", fn := fun _ => fun
  | [d1, d2] => { results := [.lit (.bool false)], args := [d1, d2] }
  | _ => none }
def FnExactAddMatricesWrongFalsely : Prop := fnExactAddMatricesRow.holds Try.pinned (OpenSpec.ofChange fnExactAddMatricesWrong)

/-- 'laws.FnExactMultiply': WHATEVER THE INPUT: true; the input reads as it did. -/
def fnExactMultiplySpec : ChangeSpec := { name := "fnExactMultiply", fn := fun _ => fun
  | [d1, d2] => { results := [.lit (.bool true)], args := [d1, d2] }
  | _ => none }
def fnExactMultiplyRow : OpenClaim := { program := "ytakkbpieoceodaa", sum := "361fc0409b9ea8a09592ed3ca3bbd5c14d80616ce0055a3d0d5539f53e3f6ad7", func := "loop.example/g00822/laws.FnExactMultiply", spec := "fnExactMultiply", unfollowed := true, recurses := true, apart := false }
def FnExactMultiplySaid : Prop := fnExactMultiplyRow.holds Try.pinned (OpenSpec.ofChange fnExactMultiplySpec)

/-- ITS FALSE NEIGHBOUR: 'it returns false'. Refute it at one input. -/
def fnExactMultiplyWrong : ChangeSpec := { name := "fnExactMultiply", fn := fun _ => fun
  | [d1, d2] => { results := [.lit (.bool false)], args := [d1, d2] }
  | _ => none }
def FnExactMultiplyWrongFalsely : Prop := fnExactMultiplyRow.holds Try.pinned (OpenSpec.ofChange fnExactMultiplyWrong)

/-- 'laws.FnExactRankOf': WHATEVER THE INPUT: true; the input reads as it did. -/
def fnExactRankOfSpec : ChangeSpec := { name := "fnExactRankOf", fn := fun _ => fun
  | [d] => { results := [.lit (.bool true)], args := [d] }
  | _ => none }
def fnExactRankOfRow : OpenClaim := { program := "ytakkbpieoceodaa", sum := "361fc0409b9ea8a09592ed3ca3bbd5c14d80616ce0055a3d0d5539f53e3f6ad7", func := "loop.example/g00822/laws.FnExactRankOf", spec := "fnExactRankOf", apart := false }
def FnExactRankOfSaid : Prop := fnExactRankOfRow.holds Try.pinned (OpenSpec.ofChange fnExactRankOfSpec)

/-- ITS FALSE NEIGHBOUR: 'it returns false'. Refute it at one input. -/
def fnExactRankOfWrong : ChangeSpec := { name := "fnExactRankOf", fn := fun _ => fun
  | [d] => { results := [.lit (.bool false)], args := [d] }
  | _ => none }
def FnExactRankOfWrongFalsely : Prop := fnExactRankOfRow.holds Try.pinned (OpenSpec.ofChange fnExactRankOfWrong)

/- THE SECOND FORM. 'bulk': how many values and letters a reading holds, each counted each time it is reached (what is shared counts as often as it is met; a slice's spare places count too). A statement '..UptoSaid' is the law's where the arguments, and the package variables that the reading takes, are together of bulk at most 1048576: NARROWER than '..Said'. Prove '..Said' where nothing that the law and all that it calls make is longer than what came in: it says more and counts as full. Else prove '..UptoSaid'. A law counts once. -/
mutual
def uptoBulk {H : Type} : DataW H → Nat
  | .lit (.string bytes) => bytes.length + 1
  | .lit _ => 1
  | .nil => 1
  | .ptr d => uptoBulk d + 1
  | .slice elems spare => uptoBulkAll elems + uptoBulkAll spare + 1
  | .agg parts => uptoBulkAll parts + 1
  | .iface _ d => uptoBulk d + 1
  | .map entries => uptoBulkEntries entries + 1
  | .held _ => 1
def uptoBulkAll {H : Type} : List (DataW H) → Nat
  | [] => 0
  | d :: r => uptoBulk d + uptoBulkAll r
def uptoBulkEntries {H : Type} : List (Lit × DataW H) → Nat
  | [] => 0
  | x :: r => uptoBulkEntry x + uptoBulkEntries r
def uptoBulkEntry {H : Type} : Lit × DataW H → Nat
  | (.string bytes, d) => bytes.length + uptoBulk d + 1
  | (_, d) => uptoBulk d + 1
 end
def uptoSmall : (H : Type) → List (DataW H) → Bool := fun _ ds => decide (uptoBulkAll ds ≤ 1048576)
def OpenSpec.upto (s : _root_.Go.ChangeSpec) : _root_.Go.OpenSpec := { _root_.Go.OpenSpec.ofChange s with cond := some uptoSmall }

/-- 'laws.FnExactIdentityMatrix', WHERE WHAT IT READS IS OF BULK AT MOST 1048576: true; the input reads as it did. -/
def fnExactIdentityMatrixUptoRow : OpenClaim := { program := "ytakkbpieoceodaa", sum := "361fc0409b9ea8a09592ed3ca3bbd5c14d80616ce0055a3d0d5539f53e3f6ad7", func := "loop.example/g00822/laws.FnExactIdentityMatrix", spec := "fnExactIdentityMatrix", unfollowed := true, recurses := true, apart := false, narrowed := true }
def FnExactIdentityMatrixUptoSaid : Prop := fnExactIdentityMatrixUptoRow.holds Try.pinned (OpenSpec.upto fnExactIdentityMatrixSpec)

/-- 'laws.FnExactIsSymmetric', WHERE WHAT IT READS IS OF BULK AT MOST 1048576: true; the input reads as it did. -/
def fnExactIsSymmetricUptoRow : OpenClaim := { program := "ytakkbpieoceodaa", sum := "361fc0409b9ea8a09592ed3ca3bbd5c14d80616ce0055a3d0d5539f53e3f6ad7", func := "loop.example/g00822/laws.FnExactIsSymmetric", spec := "fnExactIsSymmetric", unfollowed := true, recurses := true, apart := false, narrowed := true }
def FnExactIsSymmetricUptoSaid : Prop := fnExactIsSymmetricUptoRow.holds Try.pinned (OpenSpec.upto fnExactIsSymmetricSpec)

/-- 'laws.FnExactTranspose', WHERE WHAT IT READS IS OF BULK AT MOST 1048576: true; the input reads as it did. -/
def fnExactTransposeUptoRow : OpenClaim := { program := "ytakkbpieoceodaa", sum := "361fc0409b9ea8a09592ed3ca3bbd5c14d80616ce0055a3d0d5539f53e3f6ad7", func := "loop.example/g00822/laws.FnExactTranspose", spec := "fnExactTranspose", unfollowed := true, recurses := true, apart := false, narrowed := true }
def FnExactTransposeUptoSaid : Prop := fnExactTransposeUptoRow.holds Try.pinned (OpenSpec.upto fnExactTransposeSpec)

/-- 'laws.FnExactSubmatrix', WHERE WHAT IT READS IS OF BULK AT MOST 1048576: true; the input reads as it did. -/
def fnExactSubmatrixUptoRow : OpenClaim := { program := "ytakkbpieoceodaa", sum := "361fc0409b9ea8a09592ed3ca3bbd5c14d80616ce0055a3d0d5539f53e3f6ad7", func := "loop.example/g00822/laws.FnExactSubmatrix", spec := "fnExactSubmatrix", unfollowed := true, recurses := true, apart := false, narrowed := true }
def FnExactSubmatrixUptoSaid : Prop := fnExactSubmatrixUptoRow.holds Try.pinned (OpenSpec.upto fnExactSubmatrixSpec)

/-- 'laws.FnExactAddMatrices', WHERE WHAT IT READS IS OF BULK AT MOST 1048576: true; the input reads as it did. -/
def fnExactAddMatricesUptoRow : OpenClaim := { program := "ytakkbpieoceodaa", sum := "361fc0409b9ea8a09592ed3ca3bbd5c14d80616ce0055a3d0d5539f53e3f6ad7", func := "loop.example/g00822/laws.FnExactAddMatrices", spec := "fnExactAddMatrices", unfollowed := true, recurses := true, apart := false, narrowed := true }
def FnExactAddMatricesUptoSaid : Prop := fnExactAddMatricesUptoRow.holds Try.pinned (OpenSpec.upto fnExactAddMatricesSpec)

/-- 'laws.FnExactMultiply', WHERE WHAT IT READS IS OF BULK AT MOST 1048576: true; the input reads as it did. -/
def fnExactMultiplyUptoRow : OpenClaim := { program := "ytakkbpieoceodaa", sum := "361fc0409b9ea8a09592ed3ca3bbd5c14d80616ce0055a3d0d5539f53e3f6ad7", func := "loop.example/g00822/laws.FnExactMultiply", spec := "fnExactMultiply", unfollowed := true, recurses := true, apart := false, narrowed := true }
def FnExactMultiplyUptoSaid : Prop := fnExactMultiplyUptoRow.holds Try.pinned (OpenSpec.upto fnExactMultiplySpec)

/-- 'laws.FnExactRankOf', WHERE WHAT IT READS IS OF BULK AT MOST 1048576: true; the input reads as it did. -/
def fnExactRankOfUptoRow : OpenClaim := { program := "ytakkbpieoceodaa", sum := "361fc0409b9ea8a09592ed3ca3bbd5c14d80616ce0055a3d0d5539f53e3f6ad7", func := "loop.example/g00822/laws.FnExactRankOf", spec := "fnExactRankOf", apart := false, narrowed := true }
def FnExactRankOfUptoSaid : Prop := fnExactRankOfUptoRow.holds Try.pinned (OpenSpec.upto fnExactRankOfSpec)

end Rows
end Go.Proofs.Ytakkbpieoceodaa
