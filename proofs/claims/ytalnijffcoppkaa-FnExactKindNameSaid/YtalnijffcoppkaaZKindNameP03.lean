/-
  Own work: part 4 of the texts that the proof of the given statement leans on.
-/
import Derived.Test.YtalnijffcoppkaaProg
import Derived.Test.YtalnijffcoppkaaZKindNameP02
/-
  Own work, written by program (gen.py): the functions that the statement reaches meet their contracts.
-/
open Go Go.Di Go.Proofs
namespace Go.Proofs.Ytalnijffcoppkaa.WKindName
noncomputable def lay : List (TypeId × TI) := [
  (3, ⟨false, [.d (.int .i64 0)], [], none, some (.int .i64), false⟩),
  (9, ⟨false, [.d (.str ByteArray.empty)], [], none, some .str, false⟩),
  (54, ⟨false, [.mt], [], some .str, none, false⟩)]
theorem lay_ok : LayOk Try.prog lay := layOk_ok (by kernel_rfl)
theorem mix : Try.prog.follows .mixedOrders = true := by kernel_rfl

noncomputable def sg_spec_l01In : Sig := ⟨[(false, [.int .i64]), (false, [.int .i64]), (false, [.int .i64])], false, [(false, [.data (.bool)])]⟩
noncomputable def c_spec_l01In : Con := ⟨sg_spec_l01In, Bool, fun x => M_spec_l01In x.1 x.2.1 x.2.2.1, fun r => (r, ())⟩
noncomputable def code_spec_l01In : Code := Try.f30.body.getD .skip
noncomputable def E_spec_l01In : Env := ⟨lay, [], [], []⟩
theorem cons_spec_l01In : ConsOk Try.prog E_spec_l01In.cons := consOk_nil
theorem loops_spec_l01In : loopsIn code_spec_l01In = [] := by kernel_rfl
theorem m_spec_l01In : Meets Try.prog 30 c_spec_l01In := meets_of (E := E_spec_l01In) (code := code_spec_l01In) mix lay_ok cons_spec_l01In Try.func30 (by kernel_rfl) sg_spec_l01In (by kernel_rfl) (fun y => y.1) c_spec_l01In.out (fun _ => rfl) c_spec_l01In.run (fun x => by kernel_rfl) (by kernel_rfl) (loops_mem loops_spec_l01In (trivial))

noncomputable def sg_spec_KindName : Sig := ⟨[(false, [.int .i64])], false, [(false, [.data (.str)])]⟩
noncomputable def c_spec_KindName : Con := ⟨sg_spec_KindName, ByteArray, fun x => M_spec_KindName x.1, fun r => (r, ())⟩
noncomputable def code_spec_KindName : Code := Try.f11.body.getD .skip
noncomputable def E_spec_KindName : Env := ⟨lay, [(30, c_spec_l01In)], [], []⟩
theorem cons_spec_KindName : ConsOk Try.prog E_spec_KindName.cons := consOk_cons m_spec_l01In (callable_of Try.func30 (by kernel_rfl)) (consOk_nil)
theorem loops_spec_KindName : loopsIn code_spec_KindName = [] := by kernel_rfl
theorem m_spec_KindName : Meets Try.prog 11 c_spec_KindName := meets_of (E := E_spec_KindName) (code := code_spec_KindName) mix lay_ok cons_spec_KindName Try.func11 (by kernel_rfl) sg_spec_KindName (by kernel_rfl) (fun y => y.1) c_spec_KindName.out (fun _ => rfl) c_spec_KindName.run (fun x => by kernel_rfl) (by kernel_rfl) (loops_mem loops_spec_KindName (trivial))

noncomputable def sg_impl_KindName : Sig := ⟨[(false, [.int .i64])], false, [(false, [.data (.str)])]⟩
noncomputable def c_impl_KindName : Con := ⟨sg_impl_KindName, ByteArray, fun x => M_impl_KindName x.1, fun r => (r, ())⟩
noncomputable def code_impl_KindName : Code := Try.f12.body.getD .skip
noncomputable def E_impl_KindName : Env := ⟨lay, [], [], []⟩
theorem cons_impl_KindName : ConsOk Try.prog E_impl_KindName.cons := consOk_nil
theorem loops_impl_KindName : loopsIn code_impl_KindName = [] := by kernel_rfl
theorem m_impl_KindName : Meets Try.prog 12 c_impl_KindName := meets_of (E := E_impl_KindName) (code := code_impl_KindName) mix lay_ok cons_impl_KindName Try.func12 (by kernel_rfl) sg_impl_KindName (by kernel_rfl) (fun y => y.1) c_impl_KindName.out (fun _ => rfl) c_impl_KindName.run (fun x => by kernel_rfl) (by kernel_rfl) (loops_mem loops_impl_KindName (trivial))

noncomputable def sg_laws_FnExactKindName : Sig := ⟨[(false, [.int .i64])], false, [(false, [.data (.bool)])]⟩
noncomputable def c_laws_FnExactKindName : Con := ⟨sg_laws_FnExactKindName, Bool, fun x => M_laws_FnExactKindName x.1, fun r => (r, ())⟩
noncomputable def code_laws_FnExactKindName : Code := Try.f4.body.getD .skip
noncomputable def E_laws_FnExactKindName : Env := ⟨lay, [(11, c_spec_KindName), (12, c_impl_KindName)], [], []⟩
theorem cons_laws_FnExactKindName : ConsOk Try.prog E_laws_FnExactKindName.cons := consOk_cons m_spec_KindName (callable_of Try.func11 (by kernel_rfl)) (consOk_cons m_impl_KindName (callable_of Try.func12 (by kernel_rfl)) (consOk_nil))
theorem loops_laws_FnExactKindName : loopsIn code_laws_FnExactKindName = [] := by kernel_rfl
theorem m_laws_FnExactKindName : Meets Try.prog 4 c_laws_FnExactKindName := meets_of (E := E_laws_FnExactKindName) (code := code_laws_FnExactKindName) mix lay_ok cons_laws_FnExactKindName Try.func4 (by kernel_rfl) sg_laws_FnExactKindName (by kernel_rfl) (fun y => y.1) c_laws_FnExactKindName.out (fun _ => rfl) c_laws_FnExactKindName.run (fun x => by kernel_rfl) (by kernel_rfl) (loops_mem loops_laws_FnExactKindName (trivial))
end Go.Proofs.Ytalnijffcoppkaa.WKindName
