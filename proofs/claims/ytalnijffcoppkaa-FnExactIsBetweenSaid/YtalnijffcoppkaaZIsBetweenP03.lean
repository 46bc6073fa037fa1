/-
  Own work: part 4 of the texts that the proof of the given statement leans on.
-/
import Derived.Test.YtalnijffcoppkaaProg
import Derived.Test.YtalnijffcoppkaaZIsBetweenP02
/-
  Own work, written by program (gen.py): the functions that the statement reaches meet their contracts.
-/
open Go Go.Di Go.Proofs
namespace Go.Proofs.Ytalnijffcoppkaa.WIsBetween
noncomputable def lay : List (TypeId × TI) := [
  (3, ⟨false, [.d (.int .i64 0)], [], none, some (.int .i64), false⟩),
  (4, ⟨false, [.d (.bool false)], [], none, some .bool, false⟩)]
theorem lay_ok : LayOk Try.prog lay := layOk_ok (by kernel_rfl)
theorem mix : Try.prog.follows .mixedOrders = true := by kernel_rfl

noncomputable def sg_spec_l01In : Sig := ⟨[(false, [.int .i64]), (false, [.int .i64]), (false, [.int .i64])], false, [(false, [.data (.bool)])]⟩
noncomputable def c_spec_l01In : Con := ⟨sg_spec_l01In, Bool, fun x => M_spec_l01In x.1 x.2.1 x.2.2.1, fun r => (r, ())⟩
noncomputable def code_spec_l01In : Code := Try.f30.body.getD .skip
noncomputable def E_spec_l01In : Env := ⟨lay, [], [], []⟩
theorem cons_spec_l01In : ConsOk Try.prog E_spec_l01In.cons := consOk_nil
theorem loops_spec_l01In : loopsIn code_spec_l01In = [] := by kernel_rfl
theorem m_spec_l01In : Meets Try.prog 30 c_spec_l01In := meets_of (E := E_spec_l01In) (code := code_spec_l01In) mix lay_ok cons_spec_l01In Try.func30 (by kernel_rfl) sg_spec_l01In (by kernel_rfl) (fun y => y.1) c_spec_l01In.out (fun _ => rfl) c_spec_l01In.run (fun x => by kernel_rfl) (by kernel_rfl) (loops_mem loops_spec_l01In (trivial))

noncomputable def sg_spec_IsBetween : Sig := ⟨[(false, [.int .i64])], false, [(false, [.data (.bool)])]⟩
noncomputable def c_spec_IsBetween : Con := ⟨sg_spec_IsBetween, Bool, fun x => M_spec_IsBetween x.1, fun r => (r, ())⟩
noncomputable def code_spec_IsBetween : Code := Try.f9.body.getD .skip
noncomputable def E_spec_IsBetween : Env := ⟨lay, [(30, c_spec_l01In)], [], []⟩
theorem cons_spec_IsBetween : ConsOk Try.prog E_spec_IsBetween.cons := consOk_cons m_spec_l01In (callable_of Try.func30 (by kernel_rfl)) (consOk_nil)
theorem loops_spec_IsBetween : loopsIn code_spec_IsBetween = [] := by kernel_rfl
theorem m_spec_IsBetween : Meets Try.prog 9 c_spec_IsBetween := meets_of (E := E_spec_IsBetween) (code := code_spec_IsBetween) mix lay_ok cons_spec_IsBetween Try.func9 (by kernel_rfl) sg_spec_IsBetween (by kernel_rfl) (fun y => y.1) c_spec_IsBetween.out (fun _ => rfl) c_spec_IsBetween.run (fun x => by kernel_rfl) (by kernel_rfl) (loops_mem loops_spec_IsBetween (trivial))

noncomputable def sg_impl_IsBetween : Sig := ⟨[(false, [.int .i64])], false, [(false, [.data (.bool)])]⟩
noncomputable def c_impl_IsBetween : Con := ⟨sg_impl_IsBetween, Bool, fun x => M_impl_IsBetween x.1, fun r => (r, ())⟩
noncomputable def code_impl_IsBetween : Code := Try.f10.body.getD .skip
noncomputable def E_impl_IsBetween : Env := ⟨lay, [], [], []⟩
theorem cons_impl_IsBetween : ConsOk Try.prog E_impl_IsBetween.cons := consOk_nil
theorem loops_impl_IsBetween : loopsIn code_impl_IsBetween = [] := by kernel_rfl
theorem m_impl_IsBetween : Meets Try.prog 10 c_impl_IsBetween := meets_of (E := E_impl_IsBetween) (code := code_impl_IsBetween) mix lay_ok cons_impl_IsBetween Try.func10 (by kernel_rfl) sg_impl_IsBetween (by kernel_rfl) (fun y => y.1) c_impl_IsBetween.out (fun _ => rfl) c_impl_IsBetween.run (fun x => by kernel_rfl) (by kernel_rfl) (loops_mem loops_impl_IsBetween (trivial))

noncomputable def sg_laws_FnExactIsBetween : Sig := ⟨[(false, [.int .i64])], false, [(false, [.data (.bool)])]⟩
noncomputable def c_laws_FnExactIsBetween : Con := ⟨sg_laws_FnExactIsBetween, Bool, fun x => M_laws_FnExactIsBetween x.1, fun r => (r, ())⟩
noncomputable def code_laws_FnExactIsBetween : Code := Try.f3.body.getD .skip
noncomputable def E_laws_FnExactIsBetween : Env := ⟨lay, [(9, c_spec_IsBetween), (10, c_impl_IsBetween)], [], []⟩
theorem cons_laws_FnExactIsBetween : ConsOk Try.prog E_laws_FnExactIsBetween.cons := consOk_cons m_spec_IsBetween (callable_of Try.func9 (by kernel_rfl)) (consOk_cons m_impl_IsBetween (callable_of Try.func10 (by kernel_rfl)) (consOk_nil))
theorem loops_laws_FnExactIsBetween : loopsIn code_laws_FnExactIsBetween = [] := by kernel_rfl
theorem m_laws_FnExactIsBetween : Meets Try.prog 3 c_laws_FnExactIsBetween := meets_of (E := E_laws_FnExactIsBetween) (code := code_laws_FnExactIsBetween) mix lay_ok cons_laws_FnExactIsBetween Try.func3 (by kernel_rfl) sg_laws_FnExactIsBetween (by kernel_rfl) (fun y => y.1) c_laws_FnExactIsBetween.out (fun _ => rfl) c_laws_FnExactIsBetween.run (fun x => by kernel_rfl) (by kernel_rfl) (loops_mem loops_laws_FnExactIsBetween (trivial))
end Go.Proofs.Ytalnijffcoppkaa.WIsBetween
