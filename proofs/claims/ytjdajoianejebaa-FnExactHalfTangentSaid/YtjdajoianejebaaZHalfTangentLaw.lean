/-
  The given statement FnExactHalfTangent, proved: whatever the input, the law's function returns true, and each argument reads behind the call as it read before. No condition beyond the row's own.
-/
import Derived.Test.YtjdajoianejebaaRows
import Derived.ProofKit
import Derived.Test.YtjdajoianejebaaZHalfTangentP02
namespace Go.Proofs.Ytjdajoianejebaa.LHalfTangent
open Go.Di Go.ChangeShapes Go.WideShapes Go.ChangeAt Go.RowKit
theorem own : ownKnob Try.prog.godebug = none := by kernel_rfl
theorem laidOut : laidOutB Try.prog = true := by kernel_rfl
set_option maxRecDepth 100000 in
theorem lifted (os : Os) (started : os.Started) (H : Type) (enc : TypeId × Value → H) :
    ReturnsInHanded {} Try.checked os 12 .any (Rows.fnExactHalfTangentSpec.pre6 enc Try.prog Try.f12 Rows.fnExactHalfTangentRow.domain false) (Rows.fnExactHalfTangentSpec.post enc Try.prog Try.f12 false true false false) := by
  refine returnsInHanded_of_change (C := Try.checked) own started (by kernel_rfl) Try.func12
    (ChangeSpec.witness6 (enc := enc) (C := Try.checked) false ⟨#[], #[.agg #[.bool false, .slice none 0 0, .slice none 0 0], .agg #[.bool false, .slice none 0 0, .slice none 0 0]], []⟩ 8 (by kernel_rfl) (by kernel_rfl) (by kernel_rfl) (by kernel_rfl)) ?_
  intro W base args ds gs before hval hW hcnd _
  exact law_calls (b0 := base) (t := 4) (ar := [(true, [.bool, .sl .int, .sl .int]), (true, [.bool, .sl .int, .sl .int])]) WHalfTangent.m_laws_FnExactHalfTangent (by kernel_rfl) (fun x h => law_HalfTangent (⟨x.1, x.2.1, x.2.2.1⟩ : Rt) (⟨x.2.2.2.1, x.2.2.2.2.1, x.2.2.2.2.2.1⟩ : Rt) h.2.1 h.2.2.1 h.2.2.2.2.1 h.2.2.2.2.2.1) laidOut (by kernel_rfl) (by kernel_rfl) Try.underlying4 rfl
    (fun ds h => by
      have hl : Try.f12.params.toList.length = 2 := by kernel_rfl
      rw [hl] at h
      match ds, h with
      | [d1, d2], _ => rfl) hval hW
theorem holds : Rows.FnExactHalfTangentSaid :=
  OpenClaim.holds_of_wide 12 Try.f12 rfl rfl rfl rfl rfl rfl rfl ⟨rfl, rfl, rfl, rfl, rfl⟩ rfl rfl rfl rfl rfl (by kernel_rfl) Try.func12 (by kernel_rfl)
    (of_decide_eq_true (by kernel_rfl)) (by unfold Func.isWrapper; first | (rw [if_pos (by decide +kernel)]; kernel_rfl) | (rw [if_neg (by decide +kernel)]; exact ⟨rfl, rfl⟩))
    (fun os started H enc _ => lifted os started H enc)
#print axioms holds
end Go.Proofs.Ytjdajoianejebaa.LHalfTangent
