import Derived.Test.YtalnijffcoppkaaDiLaw
import Derived.Test.YtalnijffcoppkaaRows
import Derived.ProofKit
open Go Go.Di Go.Proofs
namespace Go.Proofs.Ytalnijffcoppkaa
open Go.ChangeShapes Go.WideShapes Go.ChangeAt Go.RowKit
noncomputable def lay : List (TypeId × TI) := [
  (3, { agg := false, zero := [.d (.int .i64 0)], fields := [], elem := none, scal := some (.int .i64), strct := false }),
  (4, { agg := false, zero := [.d (.bool false)], fields := [], elem := none, scal := some .bool, strct := false })]
theorem lay_ok : LayOk Try.prog lay := layOk_ok (by kernel_rfl)
noncomputable def sgI : Sig := ⟨[(false, [.int .i64])], false, [(false, [.data .bool])]⟩
noncomputable def sg3 : Sig := ⟨[(false, [.int .i64]), (false, [.int .i64]), (false, [.int .i64])], false, [(false, [.data .bool])]⟩
noncomputable def E0 : Env := ⟨lay, [], [], []⟩
theorem eq10 (n : Int) : runF E0 Try.f10 sgI (n, ()) = cond (n == 2) (some (true, ())) (cond (decide (n ≥ 5)) (some (decide (n ≤ 8), ())) (some (false, ()))) := by kernel_rfl
theorem eq30 (a b c : Int) : runF E0 Try.f30 sg3 (a, b, c, ()) = cond (decide (a ≥ b)) (some (decide (a ≤ c), ())) (some (false, ())) := by kernel_rfl
noncomputable def c30 : Con := ⟨sg3, fun x => runF E0 Try.f30 sg3 x⟩
noncomputable def c10 : Con := ⟨sgI, fun x => runF E0 Try.f10 sgI x⟩
theorem mix : Try.prog.follows .mixedOrders = true := by kernel_rfl
theorem noCons : ConsOk Try.prog [] := fun f c h => by cases h
theorem consOk_cons {P : Program} {f : FuncId} {c : Con} {r : List (FuncId × Con)} (h : Meets P f c) (hc : Callable P f) (hr : ConsOk P r) : ConsOk P ((f, c) :: r) := by
  intro g d hg
  unfold findCon at hg
  split at hg
  · rename_i hb
    cases hg
    rw [Nat.eq_of_beq_eq_true hb]; exact ⟨h, hc⟩
  · exact hr g d hg
theorem m10 : Meets Try.prog 10 c10 := meets_of mix lay_ok noCons Try.func10 rfl sgI (by kernel_rfl) (by kernel_rfl) (fun b hb => by simp [loopsIn] at hb)
theorem m30 : Meets Try.prog 30 c30 := meets_of mix lay_ok noCons Try.func30 rfl sg3 (by kernel_rfl) (by kernel_rfl) (fun b hb => by simp [loopsIn] at hb)
theorem callable30 : Callable Try.prog 30 := ⟨_, Try.func30, by kernel_rfl, by kernel_rfl⟩
theorem callable10 : Callable Try.prog 10 := ⟨_, Try.func10, by kernel_rfl, by kernel_rfl⟩
theorem callable9 : Callable Try.prog 9 := ⟨_, Try.func9, by kernel_rfl, by kernel_rfl⟩
noncomputable def E9 : Env := ⟨lay, [(30, c30)], [], []⟩
noncomputable def c9 : Con := ⟨sgI, fun x => runF E9 Try.f9 sgI x⟩
theorem m9 : Meets Try.prog 9 c9 := meets_of mix lay_ok (consOk_cons m30 callable30 noCons) Try.func9 rfl sgI (by kernel_rfl) (by kernel_rfl) (fun b hb => by simp [loopsIn] at hb)
noncomputable def E3 : Env := ⟨lay, [(9, c9), (10, c10)], [], []⟩
noncomputable def c3 : Con := ⟨sgI, fun x => runF E3 Try.f3 sgI x⟩
theorem m3 : Meets Try.prog 3 c3 := meets_of mix lay_ok (consOk_cons m9 callable9 (consOk_cons m10 callable10 noCons)) Try.func3 rfl sgI (by kernel_rfl) (by kernel_rfl) (fun b hb => by simp [loopsIn] at hb)
theorem eq9 (n : Int) : runF E9 Try.f9 sgI (n, ()) = cond (n == 2) (some (true, ())) ((cond (decide (n ≥ 5)) (some (decide (n ≤ 8), ())) (some (false, ()))).bind fun r => some (r.1, ())) := by kernel_rfl
theorem eq3 (n : Int) : runF E3 Try.f3 sgI (n, ()) = (runF E9 Try.f9 sgI (n, ())).bind fun w => (runF E0 Try.f10 sgI (n, ())).bind fun g => cond (!((show Bool from g.1) == (show Bool from w.1))) (some (false, ())) (some (true, ())) := by kernel_rfl
theorem law_true (n : Int) : runF E3 Try.f3 sgI (n, ()) = some (true, ()) := by
  rw [eq3, eq9, eq10]
  cases h1 : (n == 2) <;> cases h2 : decide (n ≥ 5) <;> cases h3 : decide (n ≤ 8) <;> rfl
theorem own : ownKnob Try.prog.godebug = none := by kernel_rfl
theorem laidOut : laidOutB Try.prog = true := by kernel_rfl
theorem law_lifted (os : Os) (started : os.Started) (H : Type) (enc : TypeId × Value → H) :
    ReturnsInHanded {} Try.checked os 3 .any (Rows.fnExactIsBetweenSpec.pre6 enc Try.prog Try.f3 Rows.fnExactIsBetweenRow.domain false) (Rows.fnExactIsBetweenSpec.post enc Try.prog Try.f3 false true false false) := by
  refine returnsInHanded_of_change (C := Try.checked) own started (by kernel_rfl) Try.func3
    (ChangeSpec.witness6 (enc := enc) (C := Try.checked) false ⟨#[], #[.int .i64 0], []⟩ 8 (by kernel_rfl) (by kernel_rfl) (by kernel_rfl) (by kernel_rfl)) ?_
  intro W base args ds gs before hval hW hcnd _
  exact law_calls (b0 := base) (t := 4) (ar := [(false, [.int .i64])]) m3 (by kernel_rfl) (fun x _ => law_true x.1) laidOut (by kernel_rfl) (by kernel_rfl) Try.underlying4 rfl
    (fun ds h => by
      have : Try.f3.params.toList.length = 1 := by kernel_rfl
      rw [this] at h
      match ds, h with
      | [d], _ => rfl) hval hW
theorem holds : Rows.FnExactIsBetweenSaid :=
  OpenClaim.holds_of_wide 3 Try.f3 rfl rfl rfl rfl rfl rfl rfl ⟨rfl, rfl, rfl, rfl, rfl⟩ rfl rfl rfl rfl rfl (by kernel_rfl) Try.func3 (by kernel_rfl)
    (of_decide_eq_true (by kernel_rfl)) (by unfold Func.isWrapper; first | (rw [if_pos (by decide +kernel)]; kernel_rfl) | (rw [if_neg (by decide +kernel)]; exact ⟨rfl, rfl⟩))
    (fun os started H enc _ => law_lifted os started H enc)
#print axioms holds
end Go.Proofs.Ytalnijffcoppkaa
