/-
  The given statement FnExactReverseObservation, proved: whatever the input, the law's function returns true, and each argument reads behind the call as it read before. No condition beyond the row's own.
-/
import Derived.Test.YtkjfphfbpocijaaGreatRows
import Derived.ProofKit
import Derived.Test.YtkjfphfbpocijaaGreatZReverseObservationP02
namespace Go.Proofs.YtkjfphfbpocijaaGreat.LReverseObservation
open Go.Di Go.ChangeShapes Go.WideShapes Go.ChangeAt Go.RowKit
theorem own : ownKnob Tryz.prog.godebug = none := by kernel_rfl
theorem laidOut : laidOutB Tryz.prog = true := by kernel_rfl
set_option maxHeartbeats 1600000 in
set_option maxRecDepth 100000 in
theorem lifted (os : Os) (started : os.Started) (H : Type) (enc : TypeId × Value → H) :
    ReturnsInHanded {} Tryz.checked os 3 .any (Rows.fnExactReverseObservationSpec.pre6 enc Tryz.prog Tryz.f3 Rows.fnExactReverseObservationRow.domain false) (Rows.fnExactReverseObservationSpec.post enc Tryz.prog Tryz.f3 false true false false) := by
  refine returnsInHanded_of_change (C := Tryz.checked) own started (by kernel_rfl) Tryz.func3
    (ChangeSpec.witness6 (enc := enc) (C := Tryz.checked) false ⟨#[], #[.agg #[.bool false, .slice none 0 0], .agg #[.int .i64 0, .int .i64 0, .int .i64 0, .bool false, .slice none 0 0, .slice none 0 0, .bool false, .slice none 0 0, .slice none 0 0]], []⟩ 8 (by kernel_rfl) (by kernel_rfl) (by kernel_rfl) (by kernel_rfl)) ?_
  intro W base args ds gs before hval hW hcnd _
  exact law_calls (b0 := base) (t := 4) (ar := [(true, [.bool, .sl .sta]), (true, [.int .i64, .int .i64, .int .i64, .bool, .sl .int, .sl .int, .bool, .sl .int, .sl .int])]) WReverseObservation.m_q111 (by kernel_rfl) (fun x h => law_ReverseObservation (⟨x.1, x.2.1⟩ : Net) (⟨x.2.2.1, x.2.2.2.1, x.2.2.2.2.1, (⟨x.2.2.2.2.2.1, x.2.2.2.2.2.2.1, x.2.2.2.2.2.2.2.1⟩ : Rt), (⟨x.2.2.2.2.2.2.2.2.1, x.2.2.2.2.2.2.2.2.2.1, x.2.2.2.2.2.2.2.2.2.2.1⟩ : Rt)⟩ : Obs) h.2.1 h.2.2.2.2.2.2.1 h.2.2.2.2.2.2.2.1 h.2.2.2.2.2.2.2.2.2.1 h.2.2.2.2.2.2.2.2.2.2.1) laidOut (by kernel_rfl) (by kernel_rfl) Tryz.underlying4 rfl
    (fun ds h => by
      have hl : Tryz.f3.params.toList.length = 2 := by kernel_rfl
      rw [hl] at h
      match ds, h with
      | [d1, d2], _ => rfl) hval hW
theorem inst : Tryz.f3.isInstance Tryz.checked.prog Rows.fnExactReverseObservationRow.origin Rows.fnExactReverseObservationRow.targs := by
  have h : Tryz.f3.name = String.ofList ['l', 'o', 'o', 'p', '.', 'e', 'x', 'a', 'm', 'p', 'l', 'e', '/', 'g', '0', '0', '8', '2', '2', '/', 'l', 'a', 'w', 's', '.', 'F', 'n', 'E', 'x', 'a', 'c', 't', 'R', 'e', 'v', 'e', 'r', 's', 'e', 'O', 'b', 's', 'e', 'r', 'v', 'a', 't', 'i', 'o', 'n'] := rfl
  have nob : (Tryz.f3.name.toList.contains '[') = false := by rw [h, String.toList_ofList]; rfl
  unfold Func.isInstance
  refine ⟨rfl, rfl, ?_⟩
  rw [if_pos (show Rows.fnExactReverseObservationRow.origin = "" from rfl)]
  exact ⟨rfl, nob⟩
theorem c3 : (Rows.fnExactReverseObservationRow.inPlace == Tryz.checked.prog.inPlace 3) = true := by kernel_rfl
theorem c4 : (Rows.fnExactReverseObservationRow.unfollowed == Tryz.checked.prog.unfollowed 3) = true := by kernel_rfl
theorem c5 : (Rows.fnExactReverseObservationRow.recurses == Tryz.checked.prog.recurses 3) = true := by kernel_rfl
theorem c6 : (Rows.fnExactReverseObservationRow.named == Tryz.checked.prog.varsNamed 3) = true := by kernel_rfl
theorem closed : joinedFacts Tryz.checked.prog 3 Tryz.f3 Rows.fnExactReverseObservationSpec Rows.fnExactReverseObservationRow = true := by
  unfold joinedFacts
  rw [c3, c4, c5, c6, show laidOutB Tryz.checked.prog = true from laidOut]
  kernel_rfl
theorem holds : Rows.FnExactReverseObservationSaid :=
  OpenClaim.holds_of_wide 3 Tryz.f3 rfl rfl rfl rfl rfl rfl rfl ⟨rfl, rfl, rfl, rfl, rfl⟩ rfl rfl rfl rfl rfl (by kernel_rfl) Tryz.func3 closed
    inst (by unfold Func.isWrapper; first | (rw [if_pos (by decide +kernel)]; kernel_rfl) | (rw [if_neg (by decide +kernel)]; exact ⟨rfl, rfl⟩))
    (fun os started H enc _ => lifted os started H enc)
#print axioms holds
end Go.Proofs.YtkjfphfbpocijaaGreat.LReverseObservation
