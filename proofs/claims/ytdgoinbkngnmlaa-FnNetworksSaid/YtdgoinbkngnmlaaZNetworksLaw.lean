/-
  The given statement FnNetworks, proved: whatever the input, the law's function returns true, and each argument reads behind the call as it read before. No condition beyond the row's own.
-/
import Derived.Test.YtdgoinbkngnmlaaRows
import Derived.ProofKit
import Derived.Test.YtdgoinbkngnmlaaZNetworksP02
namespace Go.Proofs.Ytdgoinbkngnmlaa.LNetworks
open Go.Di Go.ChangeShapes Go.WideShapes Go.ChangeAt Go.RowKit
theorem own : ownKnob Try.prog.godebug = none := by kernel_rfl
theorem laidOut : laidOutB Try.prog = true := by kernel_rfl
set_option maxHeartbeats 1600000 in
set_option maxRecDepth 100000 in
theorem lifted (os : Os) (started : os.Started) (H : Type) (enc : TypeId × Value → H) :
    ReturnsInHanded {} Try.checked os 5 .any (Rows.fnNetworksSpec.pre6 enc Try.prog Try.f5 Rows.fnNetworksRow.domain false) (Rows.fnNetworksSpec.post enc Try.prog Try.f5 false true false false) := by
  refine returnsInHanded_of_change (C := Try.checked) own started (by kernel_rfl) Try.func5
    (ChangeSpec.witness6 (enc := enc) (C := Try.checked) false ⟨#[], #[.slice none 0 0], []⟩ 8 (by kernel_rfl) (by kernel_rfl) (by kernel_rfl) (by kernel_rfl)) ?_
  intro W base args ds gs before hval hW hcnd _
  exact law_calls (b0 := base) (t := 4) (ar := [(false, [.sl .byte])]) WNetworks.m_q91 (by kernel_rfl) (fun x h => law_FnNetworks x.1 h.1) laidOut (by kernel_rfl) (by kernel_rfl) Try.underlying4 rfl
    (fun ds h => by
      have hl : Try.f5.params.toList.length = 1 := by kernel_rfl
      rw [hl] at h
      match ds, h with
      | [d1], _ => rfl) hval hW
theorem inst : Try.f5.isInstance Try.checked.prog Rows.fnNetworksRow.origin Rows.fnNetworksRow.targs := by
  have h : Try.f5.name = String.ofList ['l', 'o', 'o', 'p', '.', 'e', 'x', 'a', 'm', 'p', 'l', 'e', '/', 'g', '0', '0', '8', '2', '2', '/', 'l', 'a', 'w', 's', '.', 'F', 'n', 'N', 'e', 't', 'w', 'o', 'r', 'k', 's'] := rfl
  have nob : (Try.f5.name.toList.contains '[') = false := by rw [h, String.toList_ofList]; rfl
  unfold Func.isInstance
  refine ⟨rfl, rfl, ?_⟩
  rw [if_pos (show Rows.fnNetworksRow.origin = "" from rfl)]
  exact ⟨rfl, nob⟩
theorem c3 : (Rows.fnNetworksRow.inPlace == Try.checked.prog.inPlace 5) = true := by kernel_rfl
theorem c4 : (Rows.fnNetworksRow.unfollowed == Try.checked.prog.unfollowed 5) = true := by kernel_rfl
theorem c5 : (Rows.fnNetworksRow.recurses == Try.checked.prog.recurses 5) = true := by kernel_rfl
theorem c6 : (Rows.fnNetworksRow.named == Try.checked.prog.varsNamed 5) = true := by kernel_rfl
theorem closed : joinedFacts Try.checked.prog 5 Try.f5 Rows.fnNetworksSpec Rows.fnNetworksRow = true := by
  unfold joinedFacts
  rw [c3, c4, c5, c6, show laidOutB Try.checked.prog = true from laidOut]
  kernel_rfl
theorem holds : Rows.FnNetworksSaid :=
  OpenClaim.holds_of_wide 5 Try.f5 rfl rfl rfl rfl rfl rfl rfl ⟨rfl, rfl, rfl, rfl, rfl⟩ rfl rfl rfl rfl rfl (by kernel_rfl) Try.func5 closed
    inst (by unfold Func.isWrapper; first | (rw [if_pos (by decide +kernel)]; kernel_rfl) | (rw [if_neg (by decide +kernel)]; exact ⟨rfl, rfl⟩))
    (fun os started H enc _ => lifted os started H enc)
#print axioms holds
end Go.Proofs.Ytdgoinbkngnmlaa.LNetworks
