/-
  The given card FnExactFormatBook, proved: whatever the input, the law's function returns true, and each argument reads behind the call as it read before, where the listed variables hold what the program's text lays; the row is proved, then tied by the given tie. No condition beyond the row's own.
-/
import Derived.Test.YtdkfcdncamimmaaGreatDoorRows
import Derived.Test.YtdkfcdncamimmaaGreatDoorTie
import Derived.Test.YtdkfcdncamimmaaGreatDoorCards
import Derived.ProofKit
import Derived.LaidMore
import Derived.OpenShut
import Derived.Stop.Joined
import Derived.SevenTiedAt
import Derived.Test.YtdkfcdncamimmaaGreatDoorZFormatBookCardP02
namespace Go.Proofs.YtdkfcdncamimmaaGreatDoor.LFormatBook
open Go.Di Go.ChangeShapes Go.WideShapes Go.ChangeAt Go.RowKit
theorem own : ownKnob Tryz.prog.godebug = none := by kernel_rfl
theorem laidOut : laidOutB Tryz.prog = true := by kernel_rfl
/-- The door's own heap meets the condition. -/
theorem door_met (os : Os) (args : Array Value) : laidMetH Tryz.prog Rows.fnExactFormatBookRow.laid ((World.doorLaid Tryz.prog 4000 os).forCall (fun _ _ => 0) ⟨#[], args, []⟩).memory :=
  laidMetH_of_parts3 (fuel := 8) (laidMet_of_run' 8 (by kernel_rfl) (by kernel_rfl)) (by kernel_rfl) (by kernel_rfl)
/-- What the condition says of the powers of ten. -/
theorem fix_of {W : World} (h : laidMetH Tryz.prog Rows.fnExactFormatBookRow.laid W) : FixIn WFormatBook.FX W := by
  rw [MakeChecks.laidMetH_plain _ _ _ (by kernel_rfl)] at h
  obtain ⟨ps, ⟨g0, t0, cs0, f0, p0, q0, hg0, ht0, hv0, hd0, ⟨g1, t1, cs1, f1, p1, q1, hg1, ht1, hv1, hd1, ⟨g2, t2, cs2, f2, p2, q2, hg2, ht2, hv2, hd2, _, _⟩, _⟩, _⟩, _, _⟩ := h
  have hgn : Tryz.prog.globalNamed "internal/strconv.uint64pow10" = some 3 := by kernel_rfl
  have hty : (Tryz.prog.globals[3]?).map (·.type) = some 224 := by kernel_rfl
  obtain rfl := Option.some.inj (hgn.symm.trans hg2)
  obtain rfl := Option.some.inj (hty.symm.trans ht2)
  have hcs := Lib.cells_of_tab (p := p2) (n := 20) (k := .u64) (zs := Lib.pow10Tab) Tryz.underlying224 Tryz.underlying204 (by kernel_rfl) (by kernel_rfl) (hd2.trans (by kernel_rfl))
  unfold World.var? at hv2
  rw [hgn] at hv2
  intro b p hb
  have hb3 : b = 3 := by
    rcases Nat.lt_trichotomy b 3 with h | h | h
    · match b, h with
      | 0, _ => cases hb
      | 1, _ => cases hb
      | 2, _ => cases hb
    · exact h
    · match b, h with
      | b + 4, _ => cases hb
  subst hb3
  cases hb
  have hv : (match W.heap[3]? with
    | some (Obj.cells cs _ _) => some cs
    | _ => none) = some cs2 := hv2
  split at hv
  · rename_i cs t fr he
    cases hv
    exact ⟨_, t, fr, he, by rw [← hcs]⟩
  · cases hv
set_option maxHeartbeats 1600000 in
set_option maxRecDepth 100000 in
theorem lifted (os : Os) (started : os.Started) (H : Type) (enc : TypeId × Value → H) :
    ReturnsInHanded {} Tryz.checked os 7 .any (fun w args => (Rows.fnExactFormatBookSpec.pre enc Tryz.prog Tryz.f7 [] false w args ∧ laidMetH Tryz.prog Rows.fnExactFormatBookRow.laid w) ∧ sizedMet enc Tryz.prog Tryz.f7 (OpenSpec.ofChange Rows.fnExactFormatBookSpec) false w args)
      (Rows.fnExactFormatBookSpec.post enc Tryz.prog Tryz.f7 false true false false) := by
  refine returnsInHanded_of_change_and (C := Tryz.checked) (X := fun w _ => laidMetH Tryz.prog Rows.fnExactFormatBookRow.laid w) (fun _ _ _ hh h => h.of_heap hh) own started (by kernel_rfl) Tryz.func7
    (ChangeSpec.witness_shaped (enc := enc) (C := Tryz.checked) (os := os) (X := fun w _ => laidMetH Tryz.prog Rows.fnExactFormatBookRow.laid w) false (World.doorLaid Tryz.prog 4000 os) #[.agg #[.bool false, .slice none 0 0, .slice none 0 0]] 8 rfl (World.shaped_of_RefB (by kernel_rfl) (by kernel_rfl)) (by kernel_rfl) (by kernel_rfl) (by kernel_rfl) (door_met os _)) ?_
  intro W base args ds gs before hval hW _ _ hL _
  exact law_calls (b0 := base) (t := 4) (ar := [(true, [.bool, .sl .sta, .sl .obs])]) WFormatBook.m_q99 (by kernel_rfl) (fun x h => law_FormatBook (⟨x.1, x.2.1, x.2.2.1⟩ : Bk) h.2.1 h.2.2.1) laidOut (by kernel_rfl) (by kernel_rfl) Tryz.underlying4 rfl
    (fun ds h => by
      have hl : Tryz.f7.params.toList.length = 1 := by kernel_rfl
      rw [hl] at h
      match ds, h with
      | [d1], _ => rfl) hval hW (fix_of hL)
theorem inst : Tryz.f7.isInstance Tryz.checked.prog Rows.fnExactFormatBookRow.origin Rows.fnExactFormatBookRow.targs := by
  have h : Tryz.f7.name = String.ofList ['l', 'o', 'o', 'p', '.', 'e', 'x', 'a', 'm', 'p', 'l', 'e', '/', 'g', '0', '0', '8', '2', '2', '/', 'l', 'a', 'w', 's', '.', 'F', 'n', 'E', 'x', 'a', 'c', 't', 'F', 'o', 'r', 'm', 'a', 't', 'B', 'o', 'o', 'k'] := rfl
  have nob : (Tryz.f7.name.toList.contains '[') = false := by rw [h, String.toList_ofList]; rfl
  unfold Func.isInstance
  refine ⟨rfl, rfl, ?_⟩
  rw [if_pos (show Rows.fnExactFormatBookRow.origin = "" from rfl)]
  exact ⟨rfl, nob⟩
theorem c3 : (Rows.fnExactFormatBookRow.inPlace == Tryz.checked.prog.inPlace 7) = true := by kernel_rfl
theorem c4 : (Rows.fnExactFormatBookRow.unfollowed == Tryz.checked.prog.unfollowed 7) = true := by kernel_rfl
theorem c5 : (Rows.fnExactFormatBookRow.recurses == Tryz.checked.prog.recurses 7) = true := by kernel_rfl
theorem c6 : (Rows.fnExactFormatBookRow.named == Tryz.checked.prog.varsNamed 7) = true := by kernel_rfl
theorem closed : joinedFacts Tryz.checked.prog 7 Tryz.f7 Rows.fnExactFormatBookSpec Rows.fnExactFormatBookRow = true := by
  unfold joinedFacts
  rw [c3, c4, c5, c6, show laidOutB Tryz.checked.prog = true from laidOut]
  kernel_rfl
theorem holds : Rows.FnExactFormatBookSaid :=
  OpenClaim.holds_of_wide 7 Tryz.f7 rfl rfl rfl rfl rfl rfl rfl ⟨rfl, rfl, rfl, rfl, rfl⟩ rfl rfl rfl rfl rfl (by kernel_rfl) Tryz.func7 closed
    inst (by unfold Func.isWrapper; first | (rw [if_pos (by decide +kernel)]; kernel_rfl) | (rw [if_neg (by decide +kernel)]; exact ⟨rfl, rfl⟩))
    (fun os started H enc _ => lifted os started H enc)
theorem card_holds : Rows.FnExactFormatBookCardSaid :=
  Claim7.holds_tied_plain_at .later [] [.data, .data, .data] true (true, "15c93202c64df8828bf4cdb0252bcb54d1693a057fcf7c6698be6b7e62cd3fe4") true
    holds (fun _ h => by cases h) (by kernel_rfl) (fun _ h => by cases h) fnExactFormatBook_row_tie rfl ⟨rfl, rfl⟩ (by kernel_rfl) rfl
    (fun f fn hf hfn => by
      obtain rfl : f = 7 := Option.some.inj ((show Tryz.prog.funcNamed Rows.fnExactFormatBookRow.func = some 7 by kernel_rfl).symm.trans hf) |>.symm
      obtain rfl : fn = Tryz.f7 := (Option.some.inj (Tryz.func7.symm.trans hfn)).symm
      exact ⟨by kernel_rfl, fun j t ht => by
        rw [Tryz.params7] at ht
        have hall : ∀ t ∈ ([72] : List TypeId), Tryz.prog.wantsStandIn t = false := by
          intro t ht
          simp only [List.mem_cons, List.not_mem_nil, or_false] at ht
          subst ht; kernel_rfl
        refine hall t ?_
        have := Array.mem_of_getElem? ht
        simpa using this⟩)
    (by kernel_rfl)
#print axioms card_holds
end Go.Proofs.YtdkfcdncamimmaaGreatDoor.LFormatBook
