/-
  The given statement FnExactMoveStations, proved: whatever the input, the law's function returns true, and each argument reads behind the call as it read before. No condition beyond the row's own.
-/
import Derived.Test.YtkjfphfbpocijaaRows
import Derived.ProofKit
import Derived.Test.YtkjfphfbpocijaaZMoveStationsP02
namespace Go.Proofs.Ytkjfphfbpocijaa.LMoveStations
open Go.Di Go.ChangeShapes Go.WideShapes Go.ChangeAt Go.RowKit
theorem own : ownKnob Try.prog.godebug = none := by kernel_rfl
theorem laidOut : laidOutB Try.prog = true := by kernel_rfl
set_option maxRecDepth 100000 in
theorem lifted (os : Os) (started : os.Started) (H : Type) (enc : TypeId × Value → H) :
    ReturnsInHanded {} Try.checked os 12 .any (Rows.fnExactMoveStationsSpec.pre6 enc Try.prog Try.f12 Rows.fnExactMoveStationsRow.domain false) (Rows.fnExactMoveStationsSpec.post enc Try.prog Try.f12 false true false false) := by
  refine returnsInHanded_of_change (C := Try.checked) own started (by kernel_rfl) Try.func12
    (ChangeSpec.witness6 (enc := enc) (C := Try.checked) false ⟨#[], #[.agg #[.bool false, .slice none 0 0], .slice none 0 0], []⟩ 8 (by kernel_rfl) (by kernel_rfl) (by kernel_rfl) (by kernel_rfl)) ?_
  intro W base args ds gs before hval hW hcnd _
  exact law_calls (b0 := base) (t := 4) (ar := [(true, [.bool, .sl .sta]), (false, [.sl .rat])]) WMoveStations.m_q102 (by kernel_rfl) (fun x h => law_MoveStations (⟨x.1, x.2.1⟩ : Net) x.2.2.1 h.2.1 h.2.2.1) laidOut (by kernel_rfl) (by kernel_rfl) Try.underlying4 rfl
    (fun ds h => by
      have hl : Try.f12.params.toList.length = 2 := by kernel_rfl
      rw [hl] at h
      match ds, h with
      | [d1, d2], _ => rfl) hval hW
theorem inst : Try.f12.isInstance Try.checked.prog Rows.fnExactMoveStationsRow.origin Rows.fnExactMoveStationsRow.targs := by
  have h : Try.f12.name = String.ofList ['l', 'o', 'o', 'p', '.', 'e', 'x', 'a', 'm', 'p', 'l', 'e', '/', 'g', '0', '0', '8', '2', '2', '/', 'l', 'a', 'w', 's', '.', 'F', 'n', 'E', 'x', 'a', 'c', 't', 'M', 'o', 'v', 'e', 'S', 't', 'a', 't', 'i', 'o', 'n', 's'] := rfl
  have nob : (Try.f12.name.toList.contains '[') = false := by rw [h, String.toList_ofList]; rfl
  unfold Func.isInstance
  refine ⟨rfl, rfl, ?_⟩
  rw [if_pos (show Rows.fnExactMoveStationsRow.origin = "" from rfl)]
  exact ⟨rfl, nob⟩
theorem c3 : (Rows.fnExactMoveStationsRow.inPlace == Try.checked.prog.inPlace 12) = true := by kernel_rfl
theorem c4 : (Rows.fnExactMoveStationsRow.unfollowed == Try.checked.prog.unfollowed 12) = true := by kernel_rfl
theorem c5 : (Rows.fnExactMoveStationsRow.recurses == Try.checked.prog.recurses 12) = true := by kernel_rfl
theorem c6 : (Rows.fnExactMoveStationsRow.named == Try.checked.prog.varsNamed 12) = true := by kernel_rfl
theorem closed : joinedFacts Try.checked.prog 12 Try.f12 Rows.fnExactMoveStationsSpec Rows.fnExactMoveStationsRow = true := by
  unfold joinedFacts
  rw [c3, c4, c5, c6, show laidOutB Try.checked.prog = true from laidOut]
  kernel_rfl
theorem holds : Rows.FnExactMoveStationsSaid :=
  OpenClaim.holds_of_wide 12 Try.f12 rfl rfl rfl rfl rfl rfl rfl ⟨rfl, rfl, rfl, rfl, rfl⟩ rfl rfl rfl rfl rfl (by kernel_rfl) Try.func12 closed
    inst (by unfold Func.isWrapper; first | (rw [if_pos (by decide +kernel)]; kernel_rfl) | (rw [if_neg (by decide +kernel)]; exact ⟨rfl, rfl⟩))
    (fun os started H enc _ => lifted os started H enc)
#print axioms holds
end Go.Proofs.Ytkjfphfbpocijaa.LMoveStations
