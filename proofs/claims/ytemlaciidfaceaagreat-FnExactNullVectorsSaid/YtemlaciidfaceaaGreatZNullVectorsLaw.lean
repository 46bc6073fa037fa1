/-
  The given statement FnExactNullVectors, proved: whatever the input, the law's function returns true, and each argument reads behind the call as it read before. No condition beyond the row's own.
-/
import Derived.Test.YtemlaciidfaceaaGreatRows
import Derived.ProofKit
import Derived.Test.YtemlaciidfaceaaGreatZNullVectorsP02
namespace Go.Proofs.YtemlaciidfaceaaGreat.LNullVectors
open Go.Di Go.ChangeShapes Go.WideShapes Go.ChangeAt Go.RowKit
theorem own : ownKnob Tryz.prog.godebug = none := by kernel_rfl
theorem laidOut : laidOutB Tryz.prog = true := by kernel_rfl
set_option maxHeartbeats 1600000 in
set_option maxRecDepth 100000 in
theorem lifted (os : Os) (started : os.Started) (H : Type) (enc : TypeId × Value → H) :
    ReturnsInHanded {} Tryz.checked os 7 .any (Rows.fnExactNullVectorsSpec.pre6 enc Tryz.prog Tryz.f7 Rows.fnExactNullVectorsRow.domain false) (Rows.fnExactNullVectorsSpec.post enc Tryz.prog Tryz.f7 false true false false) := by
  refine returnsInHanded_of_change (C := Tryz.checked) own started (by kernel_rfl) Tryz.func7
    (ChangeSpec.witness6 (enc := enc) (C := Tryz.checked) false ⟨#[], #[.agg #[.int .i64 0, .int .i64 0, .slice none 0 0]], []⟩ 8 (by kernel_rfl) (by kernel_rfl) (by kernel_rfl) (by kernel_rfl)) ?_
  intro W base args ds gs before hval hW hcnd _
  exact law_calls (b0 := base) (t := 4) (ar := [(true, [.int .i64, .int .i64, .sl .rat])]) WNullVectors.m_q119 (by kernel_rfl) (fun x h => law_NullVectors (⟨x.1, x.2.1, x.2.2.1⟩ : Mx) h.2.2.1) laidOut (by kernel_rfl) (by kernel_rfl) Tryz.underlying4 rfl
    (fun ds h => by
      have hl : Tryz.f7.params.toList.length = 1 := by kernel_rfl
      rw [hl] at h
      match ds, h with
      | [d1], _ => rfl) hval hW noFix_in
theorem inst : Tryz.f7.isInstance Tryz.checked.prog Rows.fnExactNullVectorsRow.origin Rows.fnExactNullVectorsRow.targs := by
  have h : Tryz.f7.name = String.ofList ['l', 'o', 'o', 'p', '.', 'e', 'x', 'a', 'm', 'p', 'l', 'e', '/', 'g', '0', '0', '8', '2', '2', '/', 'l', 'a', 'w', 's', '.', 'F', 'n', 'E', 'x', 'a', 'c', 't', 'N', 'u', 'l', 'l', 'V', 'e', 'c', 't', 'o', 'r', 's'] := rfl
  have nob : (Tryz.f7.name.toList.contains '[') = false := by rw [h, String.toList_ofList]; rfl
  unfold Func.isInstance
  refine ⟨rfl, rfl, ?_⟩
  rw [if_pos (show Rows.fnExactNullVectorsRow.origin = "" from rfl)]
  exact ⟨rfl, nob⟩
theorem c3 : (Rows.fnExactNullVectorsRow.inPlace == Tryz.checked.prog.inPlace 7) = true := by kernel_rfl
theorem c4 : (Rows.fnExactNullVectorsRow.unfollowed == Tryz.checked.prog.unfollowed 7) = true := by kernel_rfl
theorem c5 : (Rows.fnExactNullVectorsRow.recurses == Tryz.checked.prog.recurses 7) = true := by kernel_rfl
theorem c6 : (Rows.fnExactNullVectorsRow.named == Tryz.checked.prog.varsNamed 7) = true := by kernel_rfl
theorem closed : joinedFacts Tryz.checked.prog 7 Tryz.f7 Rows.fnExactNullVectorsSpec Rows.fnExactNullVectorsRow = true := by
  unfold joinedFacts
  rw [c3, c4, c5, c6, show laidOutB Tryz.checked.prog = true from laidOut]
  kernel_rfl
theorem holds : Rows.FnExactNullVectorsSaid :=
  OpenClaim.holds_of_wide 7 Tryz.f7 rfl rfl rfl rfl rfl rfl rfl ⟨rfl, rfl, rfl, rfl, rfl⟩ rfl rfl rfl rfl rfl (by kernel_rfl) Tryz.func7 closed
    inst (by unfold Func.isWrapper; first | (rw [if_pos (by decide +kernel)]; kernel_rfl) | (rw [if_neg (by decide +kernel)]; exact ⟨rfl, rfl⟩))
    (fun os started H enc _ => lifted os started H enc)
#print axioms holds
end Go.Proofs.YtemlaciidfaceaaGreat.LNullVectors
