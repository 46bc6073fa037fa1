/-
  The given statement FnNull, proved: whatever the input, the law's function returns true, and each argument reads behind the call as it read before. No condition beyond the row's own.
-/
import Derived.Test.YtgimphipdnieaaaRows
import Derived.ProofKit
import Derived.Test.YtgimphipdnieaaaZNullP02
namespace Go.Proofs.Ytgimphipdnieaaa.LNull
open Go.Di Go.ChangeShapes Go.WideShapes Go.ChangeAt Go.RowKit
theorem own : ownKnob Try.prog.godebug = none := by kernel_rfl
theorem laidOut : laidOutB Try.prog = true := by kernel_rfl
set_option maxHeartbeats 1600000 in
set_option maxRecDepth 100000 in
theorem lifted (os : Os) (started : os.Started) (H : Type) (enc : TypeId × Value → H) :
    ReturnsInHanded {} Try.checked os 3 .any (Rows.fnNullSpec.pre6 enc Try.prog Try.f3 Rows.fnNullRow.domain false) (Rows.fnNullSpec.post enc Try.prog Try.f3 false true false false) := by
  refine returnsInHanded_of_change (C := Try.checked) own started (by kernel_rfl) Try.func3
    (ChangeSpec.witness6 (enc := enc) (C := Try.checked) false ⟨#[], #[.slice none 0 0], []⟩ 8 (by kernel_rfl) (by kernel_rfl) (by kernel_rfl) (by kernel_rfl)) ?_
  intro W base args ds gs before hval hW hcnd _
  exact law_calls (b0 := base) (t := 4) (ar := [(false, [.sl .byte])]) WNull.m_q89 (by kernel_rfl) (fun x h => law_FnNull x.1 h.1) laidOut (by kernel_rfl) (by kernel_rfl) Try.underlying4 rfl
    (fun ds h => by
      have hl : Try.f3.params.toList.length = 1 := by kernel_rfl
      rw [hl] at h
      match ds, h with
      | [d1], _ => rfl) hval hW
theorem inst : Try.f3.isInstance Try.checked.prog Rows.fnNullRow.origin Rows.fnNullRow.targs := by
  have h : Try.f3.name = String.ofList ['l', 'o', 'o', 'p', '.', 'e', 'x', 'a', 'm', 'p', 'l', 'e', '/', 'g', '0', '0', '8', '2', '2', '/', 'l', 'a', 'w', 's', '.', 'F', 'n', 'N', 'u', 'l', 'l'] := rfl
  have nob : (Try.f3.name.toList.contains '[') = false := by rw [h, String.toList_ofList]; rfl
  unfold Func.isInstance
  refine ⟨rfl, rfl, ?_⟩
  rw [if_pos (show Rows.fnNullRow.origin = "" from rfl)]
  exact ⟨rfl, nob⟩
theorem c3 : (Rows.fnNullRow.inPlace == Try.checked.prog.inPlace 3) = true := by kernel_rfl
theorem c4 : (Rows.fnNullRow.unfollowed == Try.checked.prog.unfollowed 3) = true := by kernel_rfl
theorem c5 : (Rows.fnNullRow.recurses == Try.checked.prog.recurses 3) = true := by kernel_rfl
theorem c6 : (Rows.fnNullRow.named == Try.checked.prog.varsNamed 3) = true := by kernel_rfl
theorem closed : joinedFacts Try.checked.prog 3 Try.f3 Rows.fnNullSpec Rows.fnNullRow = true := by
  unfold joinedFacts
  rw [c3, c4, c5, c6, show laidOutB Try.checked.prog = true from laidOut]
  kernel_rfl
theorem holds : Rows.FnNullSaid :=
  OpenClaim.holds_of_wide 3 Try.f3 rfl rfl rfl rfl rfl rfl rfl ⟨rfl, rfl, rfl, rfl, rfl⟩ rfl rfl rfl rfl rfl (by kernel_rfl) Try.func3 closed
    inst (by unfold Func.isWrapper; first | (rw [if_pos (by decide +kernel)]; kernel_rfl) | (rw [if_neg (by decide +kernel)]; exact ⟨rfl, rfl⟩))
    (fun os started H enc _ => lifted os started H enc)
#print axioms holds
end Go.Proofs.Ytgimphipdnieaaa.LNull
