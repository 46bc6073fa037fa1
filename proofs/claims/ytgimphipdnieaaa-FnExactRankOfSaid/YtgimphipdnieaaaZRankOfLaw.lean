/-
  The given statement FnExactRankOf, proved: whatever the input, the law's function returns true, and each argument reads behind the call as it read before. No condition beyond the row's own.
-/
import Derived.Test.YtgimphipdnieaaaRows
import Derived.ProofKit
import Derived.Test.YtgimphipdnieaaaZRankOfP02
namespace Go.Proofs.Ytgimphipdnieaaa.LRankOf
open Go.Di Go.ChangeShapes Go.WideShapes Go.ChangeAt Go.RowKit
theorem own : ownKnob Try.prog.godebug = none := by kernel_rfl
theorem laidOut : laidOutB Try.prog = true := by kernel_rfl
set_option maxHeartbeats 1600000 in
set_option maxRecDepth 100000 in
theorem lifted (os : Os) (started : os.Started) (H : Type) (enc : TypeId × Value → H) :
    ReturnsInHanded {} Try.checked os 4 .any (Rows.fnExactRankOfSpec.pre6 enc Try.prog Try.f4 Rows.fnExactRankOfRow.domain false) (Rows.fnExactRankOfSpec.post enc Try.prog Try.f4 false true false false) := by
  refine returnsInHanded_of_change (C := Try.checked) own started (by kernel_rfl) Try.func4
    (ChangeSpec.witness6 (enc := enc) (C := Try.checked) false ⟨#[], #[.agg #[.int .i64 0, .int .i64 0, .slice none 0 0]], []⟩ 8 (by kernel_rfl) (by kernel_rfl) (by kernel_rfl) (by kernel_rfl)) ?_
  intro W base args ds gs before hval hW hcnd _
  exact law_calls (b0 := base) (t := 4) (ar := [(true, [.int .i64, .int .i64, .sl .rat])]) WRankOf.m_q107 (by kernel_rfl) (fun x h => law_RankOf (⟨x.1, x.2.1, x.2.2.1⟩ : Mx) h.2.2.1) laidOut (by kernel_rfl) (by kernel_rfl) Try.underlying4 rfl
    (fun ds h => by
      have hl : Try.f4.params.toList.length = 1 := by kernel_rfl
      rw [hl] at h
      match ds, h with
      | [d1], _ => rfl) hval hW
theorem inst : Try.f4.isInstance Try.checked.prog Rows.fnExactRankOfRow.origin Rows.fnExactRankOfRow.targs := by
  have h : Try.f4.name = String.ofList ['l', 'o', 'o', 'p', '.', 'e', 'x', 'a', 'm', 'p', 'l', 'e', '/', 'g', '0', '0', '8', '2', '2', '/', 'l', 'a', 'w', 's', '.', 'F', 'n', 'E', 'x', 'a', 'c', 't', 'R', 'a', 'n', 'k', 'O', 'f'] := rfl
  have nob : (Try.f4.name.toList.contains '[') = false := by rw [h, String.toList_ofList]; rfl
  unfold Func.isInstance
  refine ⟨rfl, rfl, ?_⟩
  rw [if_pos (show Rows.fnExactRankOfRow.origin = "" from rfl)]
  exact ⟨rfl, nob⟩
theorem c3 : (Rows.fnExactRankOfRow.inPlace == Try.checked.prog.inPlace 4) = true := by kernel_rfl
theorem c4 : (Rows.fnExactRankOfRow.unfollowed == Try.checked.prog.unfollowed 4) = true := by kernel_rfl
theorem c5 : (Rows.fnExactRankOfRow.recurses == Try.checked.prog.recurses 4) = true := by kernel_rfl
theorem c6 : (Rows.fnExactRankOfRow.named == Try.checked.prog.varsNamed 4) = true := by kernel_rfl
theorem closed : joinedFacts Try.checked.prog 4 Try.f4 Rows.fnExactRankOfSpec Rows.fnExactRankOfRow = true := by
  unfold joinedFacts
  rw [c3, c4, c5, c6, show laidOutB Try.checked.prog = true from laidOut]
  kernel_rfl
theorem holds : Rows.FnExactRankOfSaid :=
  OpenClaim.holds_of_wide 4 Try.f4 rfl rfl rfl rfl rfl rfl rfl ⟨rfl, rfl, rfl, rfl, rfl⟩ rfl rfl rfl rfl rfl (by kernel_rfl) Try.func4 closed
    inst (by unfold Func.isWrapper; first | (rw [if_pos (by decide +kernel)]; kernel_rfl) | (rw [if_neg (by decide +kernel)]; exact ⟨rfl, rfl⟩))
    (fun os started H enc _ => lifted os started H enc)
#print axioms holds
end Go.Proofs.Ytgimphipdnieaaa.LRankOf
