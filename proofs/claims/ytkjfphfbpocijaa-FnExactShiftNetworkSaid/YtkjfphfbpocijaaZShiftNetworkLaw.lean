/-
  The given statement FnExactShiftNetwork, proved: whatever the input, the law's function returns true, and each argument reads behind the call as it read before. No condition beyond the row's own.
-/
import Derived.Test.YtkjfphfbpocijaaRows
import Derived.ProofKit
import Derived.Test.YtkjfphfbpocijaaZShiftNetworkP02
namespace Go.Proofs.Ytkjfphfbpocijaa.LShiftNetwork
open Go.Di Go.ChangeShapes Go.WideShapes Go.ChangeAt Go.RowKit
theorem own : ownKnob Try.prog.godebug = none := by kernel_rfl
theorem laidOut : laidOutB Try.prog = true := by kernel_rfl
set_option maxRecDepth 100000 in
theorem lifted (os : Os) (started : os.Started) (H : Type) (enc : TypeId × Value → H) :
    ReturnsInHanded {} Try.checked os 11 .any (Rows.fnExactShiftNetworkSpec.pre6 enc Try.prog Try.f11 Rows.fnExactShiftNetworkRow.domain false) (Rows.fnExactShiftNetworkSpec.post enc Try.prog Try.f11 false true false false) := by
  refine returnsInHanded_of_change (C := Try.checked) own started (by kernel_rfl) Try.func11
    (ChangeSpec.witness6 (enc := enc) (C := Try.checked) false ⟨#[], #[.agg #[.bool false, .slice none 0 0], .agg #[.bool false, .slice none 0 0, .slice none 0 0], .agg #[.bool false, .slice none 0 0, .slice none 0 0]], []⟩ 8 (by kernel_rfl) (by kernel_rfl) (by kernel_rfl) (by kernel_rfl)) ?_
  intro W base args ds gs before hval hW hcnd _
  exact law_calls (b0 := base) (t := 4) (ar := [(true, [.bool, .sl .sta]), (true, [.bool, .sl .int, .sl .int]), (true, [.bool, .sl .int, .sl .int])]) WShiftNetwork.m_q92 (by kernel_rfl) (fun x h => law_ShiftNetwork (⟨x.1, x.2.1⟩ : Net) (⟨x.2.2.1, x.2.2.2.1, x.2.2.2.2.1⟩ : Rt) (⟨x.2.2.2.2.2.1, x.2.2.2.2.2.2.1, x.2.2.2.2.2.2.2.1⟩ : Rt) h.2.1 h.2.2.2.1 h.2.2.2.2.1 h.2.2.2.2.2.2.1 h.2.2.2.2.2.2.2.1) laidOut (by kernel_rfl) (by kernel_rfl) Try.underlying4 rfl
    (fun ds h => by
      have hl : Try.f11.params.toList.length = 3 := by kernel_rfl
      rw [hl] at h
      match ds, h with
      | [d1, d2, d3], _ => rfl) hval hW
theorem inst : Try.f11.isInstance Try.checked.prog Rows.fnExactShiftNetworkRow.origin Rows.fnExactShiftNetworkRow.targs := by
  have h : Try.f11.name = String.ofList ['l', 'o', 'o', 'p', '.', 'e', 'x', 'a', 'm', 'p', 'l', 'e', '/', 'g', '0', '0', '8', '2', '2', '/', 'l', 'a', 'w', 's', '.', 'F', 'n', 'E', 'x', 'a', 'c', 't', 'S', 'h', 'i', 'f', 't', 'N', 'e', 't', 'w', 'o', 'r', 'k'] := rfl
  have nob : (Try.f11.name.toList.contains '[') = false := by rw [h, String.toList_ofList]; rfl
  unfold Func.isInstance
  refine ⟨rfl, rfl, ?_⟩
  rw [if_pos (show Rows.fnExactShiftNetworkRow.origin = "" from rfl)]
  exact ⟨rfl, nob⟩
theorem c3 : (Rows.fnExactShiftNetworkRow.inPlace == Try.checked.prog.inPlace 11) = true := by kernel_rfl
theorem c4 : (Rows.fnExactShiftNetworkRow.unfollowed == Try.checked.prog.unfollowed 11) = true := by kernel_rfl
theorem c5 : (Rows.fnExactShiftNetworkRow.recurses == Try.checked.prog.recurses 11) = true := by kernel_rfl
theorem c6 : (Rows.fnExactShiftNetworkRow.named == Try.checked.prog.varsNamed 11) = true := by kernel_rfl
theorem closed : joinedFacts Try.checked.prog 11 Try.f11 Rows.fnExactShiftNetworkSpec Rows.fnExactShiftNetworkRow = true := by
  unfold joinedFacts
  rw [c3, c4, c5, c6, show laidOutB Try.checked.prog = true from laidOut]
  kernel_rfl
theorem holds : Rows.FnExactShiftNetworkSaid :=
  OpenClaim.holds_of_wide 11 Try.f11 rfl rfl rfl rfl rfl rfl rfl ⟨rfl, rfl, rfl, rfl, rfl⟩ rfl rfl rfl rfl rfl (by kernel_rfl) Try.func11 closed
    inst (by unfold Func.isWrapper; first | (rw [if_pos (by decide +kernel)]; kernel_rfl) | (rw [if_neg (by decide +kernel)]; exact ⟨rfl, rfl⟩))
    (fun os started H enc _ => lifted os started H enc)
#print axioms holds
end Go.Proofs.Ytkjfphfbpocijaa.LShiftNetwork
