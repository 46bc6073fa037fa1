/-
  The given statement FnExactApplyMatrix, proved: whatever the input, the law's function returns true, and each argument reads behind the call as it read before. No condition beyond the row's own.
-/
import Derived.Test.YtkjfphfbpocijaaRows
import Derived.ProofKit
import Derived.Test.YtkjfphfbpocijaaZApplyMatrixP02
namespace Go.Proofs.Ytkjfphfbpocijaa.LApplyMatrix
open Go.Di Go.ChangeShapes Go.WideShapes Go.ChangeAt Go.RowKit
theorem own : ownKnob Try.prog.godebug = none := by kernel_rfl
theorem laidOut : laidOutB Try.prog = true := by kernel_rfl
set_option maxRecDepth 100000 in
theorem lifted (os : Os) (started : os.Started) (H : Type) (enc : TypeId × Value → H) :
    ReturnsInHanded {} Try.checked os 9 .any (Rows.fnExactApplyMatrixSpec.pre6 enc Try.prog Try.f9 Rows.fnExactApplyMatrixRow.domain false) (Rows.fnExactApplyMatrixSpec.post enc Try.prog Try.f9 false true false false) := by
  refine returnsInHanded_of_change (C := Try.checked) own started (by kernel_rfl) Try.func9
    (ChangeSpec.witness6 (enc := enc) (C := Try.checked) false ⟨#[], #[.agg #[.int .i64 0, .int .i64 0, .slice none 0 0], .slice none 0 0], []⟩ 8 (by kernel_rfl) (by kernel_rfl) (by kernel_rfl) (by kernel_rfl)) ?_
  intro W base args ds gs before hval hW hcnd _
  exact law_calls (b0 := base) (t := 4) (ar := [(true, [.int .i64, .int .i64, .sl .rat]), (false, [.sl .rat])]) WApplyMatrix.m_q96 (by kernel_rfl) (fun x h => law_ApplyMatrix (⟨x.1, x.2.1, x.2.2.1⟩ : Mx) x.2.2.2.1 h.2.2.1 h.2.2.2.1) laidOut (by kernel_rfl) (by kernel_rfl) Try.underlying4 rfl
    (fun ds h => by
      have hl : Try.f9.params.toList.length = 2 := by kernel_rfl
      rw [hl] at h
      match ds, h with
      | [d1, d2], _ => rfl) hval hW
theorem inst : Try.f9.isInstance Try.checked.prog Rows.fnExactApplyMatrixRow.origin Rows.fnExactApplyMatrixRow.targs := by
  have h : Try.f9.name = String.ofList ['l', 'o', 'o', 'p', '.', 'e', 'x', 'a', 'm', 'p', 'l', 'e', '/', 'g', '0', '0', '8', '2', '2', '/', 'l', 'a', 'w', 's', '.', 'F', 'n', 'E', 'x', 'a', 'c', 't', 'A', 'p', 'p', 'l', 'y', 'M', 'a', 't', 'r', 'i', 'x'] := rfl
  have nob : (Try.f9.name.toList.contains '[') = false := by rw [h, String.toList_ofList]; rfl
  unfold Func.isInstance
  refine ⟨rfl, rfl, ?_⟩
  rw [if_pos (show Rows.fnExactApplyMatrixRow.origin = "" from rfl)]
  exact ⟨rfl, nob⟩
theorem c3 : (Rows.fnExactApplyMatrixRow.inPlace == Try.checked.prog.inPlace 9) = true := by kernel_rfl
theorem c4 : (Rows.fnExactApplyMatrixRow.unfollowed == Try.checked.prog.unfollowed 9) = true := by kernel_rfl
theorem c5 : (Rows.fnExactApplyMatrixRow.recurses == Try.checked.prog.recurses 9) = true := by kernel_rfl
theorem c6 : (Rows.fnExactApplyMatrixRow.named == Try.checked.prog.varsNamed 9) = true := by kernel_rfl
theorem closed : joinedFacts Try.checked.prog 9 Try.f9 Rows.fnExactApplyMatrixSpec Rows.fnExactApplyMatrixRow = true := by
  unfold joinedFacts
  rw [c3, c4, c5, c6, show laidOutB Try.checked.prog = true from laidOut]
  kernel_rfl
theorem holds : Rows.FnExactApplyMatrixSaid :=
  OpenClaim.holds_of_wide 9 Try.f9 rfl rfl rfl rfl rfl rfl rfl ⟨rfl, rfl, rfl, rfl, rfl⟩ rfl rfl rfl rfl rfl (by kernel_rfl) Try.func9 closed
    inst (by unfold Func.isWrapper; first | (rw [if_pos (by decide +kernel)]; kernel_rfl) | (rw [if_neg (by decide +kernel)]; exact ⟨rfl, rfl⟩))
    (fun os started H enc _ => lifted os started H enc)
#print axioms holds
end Go.Proofs.Ytkjfphfbpocijaa.LApplyMatrix
