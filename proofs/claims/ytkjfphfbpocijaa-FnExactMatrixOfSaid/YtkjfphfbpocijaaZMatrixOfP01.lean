/-
  Own work: part 9 of the texts that the proof of the given statement leans on.
-/
import Derived.Test.YtkjfphfbpocijaaProg
import Derived.Test.YtkjfphfbpocijaaZMatrixOfP00
/-
  Own work, written by program (gen.py): the functions that the statement reaches meet their contracts.
-/
open Go Go.Di Go.Proofs
namespace Go.Proofs.Ytkjfphfbpocijaa.WMatrixOf
noncomputable def lay : List (TypeId × TI) := [
  (3, ⟨false, [.d (.int .i64 0)], [], none, some (.int .i64), false, false⟩),
  (4, ⟨false, [.d (.bool false)], [], none, some .bool, false, false⟩),
  (23, ⟨false, [.mt], [], some .int, none, false, false⟩),
  (34, ⟨false, [.mt], [], some .rat, none, false, false⟩),
  (36, ⟨true, [.d (.int .i64 0), .d (.int .i64 0), .mt], [(0, 1, false), (1, 1, false), (2, 1, false)], none, none, true, false⟩),
  (51, ⟨true, [.d (.bool false), .mt], [(0, 1, false), (1, 1, false)], none, none, true, false⟩),
  (53, ⟨true, [.d (.bool false), .mt, .mt], [(0, 2, true), (2, 1, false)], none, none, true, false⟩)]
noncomputable def layD : List (TypeId × TI) := [
  (3, ⟨false, [.d (.int .i64 0)], [], none, some (.int .i64), false, false⟩),
  (4, ⟨false, [.d (.bool false)], [], none, some .bool, false, false⟩),
  (23, ⟨false, [.mt], [], some .int, none, false, false⟩),
  (34, ⟨false, [.mt], [], some .rat, none, false, true⟩),
  (36, ⟨true, [.d (.int .i64 0), .d (.int .i64 0), .mt], [(0, 1, false), (1, 1, false), (2, 1, false)], none, none, true, false⟩),
  (51, ⟨true, [.d (.bool false), .mt], [(0, 1, false), (1, 1, false)], none, none, true, false⟩),
  (53, ⟨true, [.d (.bool false), .mt, .mt], [(0, 2, true), (2, 1, false)], none, none, true, false⟩)]
theorem lay_ok : LayOk Try.prog lay := layOk_ok (by kernel_rfl)
theorem layD_ok : LayOk Try.prog layD := layOk_ok (by kernel_rfl)
theorem mix : Try.prog.follows .mixedOrders = true := by kernel_rfl

noncomputable def sg_laws_toIntS : Sig := ⟨[(false, [.d (.sl .int)])], [], false, [(false, [.own 0])], [(0, .arr false .int)]⟩
noncomputable def c_laws_toIntS : Con := ⟨sg_laws_toIntS, List Int, fun x => M_laws_toIntS x.1, fun r => (r, ())⟩
noncomputable def code_laws_toIntS : Code := Try.f16.body.getD .skip
noncomputable def body_laws_toIntS_0 : Code := (loopsIn code_laws_toIntS).getD 0 .skip
noncomputable def D_laws_toIntS_0 : LoopD := ⟨⟨mkSlots [(0, false, [.d (.sl .int)]), (3, false, [.own 1472]), (4, false, [.d (.int .i64)])] 22 0, [(1472, .arr false .int)]⟩, [], [(.exit 0, ⟨mkSlots [(3, false, [.own 1472])] 22 0, [(1472, .arr false .int)]⟩, [])]⟩
noncomputable def S_laws_toIntS_0_w (x : Tys D_laws_toIntS_0.head.ks) : Option (OutT D_laws_toIntS_0.outs) := @whileO ((List Int) × Int × (List Int) × Unit) ((List Int) × Unit) S_laws_toIntS_0 x
noncomputable def E_laws_toIntS : Env := ⟨layD, [], [(3, mkLM D_laws_toIntS_0 S_laws_toIntS_0_w)], []⟩
theorem cons_laws_toIntS : ConsOk Try.prog E_laws_toIntS.cons := consOk_nil
theorem S_laws_toIntS_0_ok (x : Tys D_laws_toIntS_0.head.ks) : stepL E_laws_toIntS D_laws_toIntS_0 body_laws_toIntS_0 x = S_laws_toIntS_0 x := by kernel_rfl
theorem loops_laws_toIntS_0 : loopsIn body_laws_toIntS_0 = [] := by kernel_rfl
theorem l_laws_toIntS_0 : LoopOk Try.prog (mkLM D_laws_toIntS_0 S_laws_toIntS_0_w) body_laws_toIntS_0 := loop_ok2 mix layD_ok cons_laws_toIntS (by kernel_rfl) (loops_mem loops_laws_toIntS_0 (trivial)) S_laws_toIntS_0_ok fun _ _ h => h
theorem loops_laws_toIntS : loopsIn code_laws_toIntS = [body_laws_toIntS_0] := by kernel_rfl
theorem m_laws_toIntS : Meets Try.prog 16 c_laws_toIntS := meets_of (E := E_laws_toIntS) (code := code_laws_toIntS) mix layD_ok cons_laws_toIntS Try.func16 (by kernel_rfl) sg_laws_toIntS (by kernel_rfl) (fun y => y.1) c_laws_toIntS.out (fun _ => rfl) c_laws_toIntS.run (fun x => by kernel_rfl) (by kernel_rfl) (loops_mem loops_laws_toIntS (⟨⟨_, by kernel_rfl, l_laws_toIntS_0⟩, trivial⟩))

noncomputable def sg_spec_l01In : Sig := ⟨[(false, [.d (.int .i64)]), (false, [.d (.int .i64)]), (false, [.d (.int .i64)])], [], false, [(false, [.d (.bool)])], []⟩
noncomputable def c_spec_l01In : Con := ⟨sg_spec_l01In, Bool, fun x => M_spec_l01In x.1 x.2.1 x.2.2.1, fun r => (r, ())⟩
noncomputable def code_spec_l01In : Code := Try.f69.body.getD .skip
noncomputable def E_spec_l01In : Env := ⟨layD, [], [], []⟩
theorem cons_spec_l01In : ConsOk Try.prog E_spec_l01In.cons := consOk_nil
theorem loops_spec_l01In : loopsIn code_spec_l01In = [] := by kernel_rfl
theorem m_spec_l01In : Meets Try.prog 69 c_spec_l01In := meets_of (E := E_spec_l01In) (code := code_spec_l01In) mix layD_ok cons_spec_l01In Try.func69 (by kernel_rfl) sg_spec_l01In (by kernel_rfl) (fun y => y.1) c_spec_l01In.out (fun _ => rfl) c_spec_l01In.run (fun x => by kernel_rfl) (by kernel_rfl) (loops_mem loops_spec_l01In (trivial))

noncomputable def sg_spec_l02Trim : Sig := ⟨[(false, [.d (.sl .int)])], [], false, [(false, [.d (.sl .int)])], []⟩
noncomputable def c_spec_l02Trim : Con := ⟨sg_spec_l02Trim, List Int, fun x => M_spec_l02Trim x.1, fun r => (r, ())⟩
noncomputable def code_spec_l02Trim : Code := Try.f172.body.getD .skip
noncomputable def body_spec_l02Trim_0 : Code := (loopsIn code_spec_l02Trim).getD 0 .skip
noncomputable def D_spec_l02Trim_0 : LoopD := ⟨⟨mkSlots [(0, false, [.d (.sl .int)]), (3, false, [.d (.int .i64)])] 21 0, []⟩, [], [(.exit 0, ⟨mkSlots [(0, false, [.d (.sl .int)]), (3, false, [.d (.int .i64)])] 21 0, []⟩, [])]⟩
noncomputable def S_spec_l02Trim_0_w (x : Tys D_spec_l02Trim_0.head.ks) : Option (OutT D_spec_l02Trim_0.outs) := @whileO ((List Int) × Int × Unit) ((List Int) × Int × Unit) S_spec_l02Trim_0 x
noncomputable def E_spec_l02Trim : Env := ⟨layD, [], [(2, mkLM D_spec_l02Trim_0 S_spec_l02Trim_0_w)], []⟩
theorem cons_spec_l02Trim : ConsOk Try.prog E_spec_l02Trim.cons := consOk_nil
theorem S_spec_l02Trim_0_ok (x : Tys D_spec_l02Trim_0.head.ks) : stepL E_spec_l02Trim D_spec_l02Trim_0 body_spec_l02Trim_0 x = S_spec_l02Trim_0 x := by kernel_rfl
theorem loops_spec_l02Trim_0 : loopsIn body_spec_l02Trim_0 = [] := by kernel_rfl
theorem l_spec_l02Trim_0 : LoopOk Try.prog (mkLM D_spec_l02Trim_0 S_spec_l02Trim_0_w) body_spec_l02Trim_0 := loop_ok2 mix layD_ok cons_spec_l02Trim (by kernel_rfl) (loops_mem loops_spec_l02Trim_0 (trivial)) S_spec_l02Trim_0_ok fun _ _ h => h
theorem loops_spec_l02Trim : loopsIn code_spec_l02Trim = [body_spec_l02Trim_0] := by kernel_rfl
theorem m_spec_l02Trim : Meets Try.prog 172 c_spec_l02Trim := meets_of (E := E_spec_l02Trim) (code := code_spec_l02Trim) mix layD_ok cons_spec_l02Trim Try.func172 (by kernel_rfl) sg_spec_l02Trim (by kernel_rfl) (fun y => y.1) c_spec_l02Trim.out (fun _ => rfl) c_spec_l02Trim.run (fun x => by kernel_rfl) (by kernel_rfl) (loops_mem loops_spec_l02Trim (⟨⟨_, by kernel_rfl, l_spec_l02Trim_0⟩, trivial⟩))

noncomputable def sg_spec_l02Cap : Sig := ⟨[(false, [.d (.sl .int)])], [], false, [(false, [.d (.sl .int)])], []⟩
noncomputable def c_spec_l02Cap : Con := ⟨sg_spec_l02Cap, List Int, fun x => M_spec_l02Cap x.1, fun r => (r, ())⟩
noncomputable def code_spec_l02Cap : Code := Try.f173.body.getD .skip
noncomputable def E_spec_l02Cap : Env := ⟨layD, [(172, c_spec_l02Trim)], [], []⟩
theorem cons_spec_l02Cap : ConsOk Try.prog E_spec_l02Cap.cons := consOk_cons m_spec_l02Trim (callable_of Try.func172 (by kernel_rfl)) (consOk_nil)
theorem loops_spec_l02Cap : loopsIn code_spec_l02Cap = [] := by kernel_rfl
theorem m_spec_l02Cap : Meets Try.prog 173 c_spec_l02Cap := meets_of (E := E_spec_l02Cap) (code := code_spec_l02Cap) mix layD_ok cons_spec_l02Cap Try.func173 (by kernel_rfl) sg_spec_l02Cap (by kernel_rfl) (fun y => y.1) c_spec_l02Cap.out (fun _ => rfl) c_spec_l02Cap.run (fun x => by kernel_rfl) (by kernel_rfl) (loops_mem loops_spec_l02Cap (trivial))

noncomputable def sg_spec_l03Make : Sig := ⟨[(false, [.d (.bool)]), (false, [.d (.sl .int)])], [], false, [(true, [.d (.bool), .own 0])], [(0, .arr false .int)]⟩
noncomputable def c_spec_l03Make : Con := ⟨sg_spec_l03Make, Bg, fun x => M_spec_l03Make x.1 x.2.1, fun r => (r.neg, r.mag, ())⟩
noncomputable def code_spec_l03Make : Code := Try.f143.body.getD .skip
noncomputable def E_spec_l03Make : Env := ⟨layD, [(173, c_spec_l02Cap)], [], []⟩
theorem cons_spec_l03Make : ConsOk Try.prog E_spec_l03Make.cons := consOk_cons m_spec_l02Cap (callable_of Try.func173 (by kernel_rfl)) (consOk_nil)
theorem loops_spec_l03Make : loopsIn code_spec_l03Make = [] := by kernel_rfl
theorem m_spec_l03Make : Meets Try.prog 143 c_spec_l03Make := meets_of (E := E_spec_l03Make) (code := code_spec_l03Make) mix layD_ok cons_spec_l03Make Try.func143 (by kernel_rfl) sg_spec_l03Make (by kernel_rfl) (fun y => (⟨y.1, y.2.1⟩ : Bg)) c_spec_l03Make.out (fun _ => rfl) c_spec_l03Make.run (fun x => by kernel_rfl) (by kernel_rfl) (loops_mem loops_spec_l03Make (trivial))

noncomputable def sg_spec_NatOf : Sig := ⟨[(false, [.d (.int .i64)])], [], false, [(false, [.own 0])], [(0, .arr false .int)]⟩
noncomputable def c_spec_NatOf : Con := ⟨sg_spec_NatOf, List Int, fun x => M_spec_NatOf x.1, fun r => (r, ())⟩
noncomputable def code_spec_NatOf : Code := Try.f153.body.getD .skip
noncomputable def body_spec_NatOf_0 : Code := (loopsIn code_spec_NatOf).getD 0 .skip
noncomputable def D_spec_NatOf_0 : LoopD := ⟨⟨mkSlots [(0, false, [.d (.int .i64)]), (3, false, [.own 1024])] 15 0, [(1024, .arr false .int)]⟩, [(.slot 3 0, 1024, .int)], [(.exit 0, ⟨mkSlots [(3, false, [.own 1024])] 15 0, [(1024, .arr false .int)]⟩, [(.slot 3 0, 1024, .int)])]⟩
noncomputable def S_spec_NatOf_0_w (x : Tys D_spec_NatOf_0.head.ks) : Option (OutT D_spec_NatOf_0.outs) := @whileO (Int × (List Int) × Unit) ((List Int) × Unit) S_spec_NatOf_0 x
noncomputable def E_spec_NatOf : Env := ⟨layD, [], [(2, mkLM D_spec_NatOf_0 S_spec_NatOf_0_w)], []⟩
theorem cons_spec_NatOf : ConsOk Try.prog E_spec_NatOf.cons := consOk_nil
theorem S_spec_NatOf_0_ok (x : Tys D_spec_NatOf_0.head.ks) : stepL E_spec_NatOf D_spec_NatOf_0 body_spec_NatOf_0 x = S_spec_NatOf_0 x := by kernel_rfl
theorem loops_spec_NatOf_0 : loopsIn body_spec_NatOf_0 = [] := by kernel_rfl
theorem l_spec_NatOf_0 : LoopOk Try.prog (mkLM D_spec_NatOf_0 S_spec_NatOf_0_w) body_spec_NatOf_0 := loop_ok2 mix layD_ok cons_spec_NatOf (by kernel_rfl) (loops_mem loops_spec_NatOf_0 (trivial)) S_spec_NatOf_0_ok fun _ _ h => h
theorem loops_spec_NatOf : loopsIn code_spec_NatOf = [body_spec_NatOf_0] := by kernel_rfl
theorem m_spec_NatOf : Meets Try.prog 153 c_spec_NatOf := meets_of (E := E_spec_NatOf) (code := code_spec_NatOf) mix layD_ok cons_spec_NatOf Try.func153 (by kernel_rfl) sg_spec_NatOf (by kernel_rfl) (fun y => y.1) c_spec_NatOf.out (fun _ => rfl) c_spec_NatOf.run (fun x => by kernel_rfl) (by kernel_rfl) (loops_mem loops_spec_NatOf (⟨⟨_, by kernel_rfl, l_spec_NatOf_0⟩, trivial⟩))

noncomputable def sg_spec_BigIntOf : Sig := ⟨[(false, [.d (.int .i64)])], [], false, [(true, [.d (.bool), .own 0])], [(0, .arr false .int)]⟩
noncomputable def c_spec_BigIntOf : Con := ⟨sg_spec_BigIntOf, Bg, fun x => M_spec_BigIntOf x.1, fun r => (r.neg, r.mag, ())⟩
noncomputable def code_spec_BigIntOf : Code := Try.f118.body.getD .skip
noncomputable def E_spec_BigIntOf : Env := ⟨layD, [(143, c_spec_l03Make), (153, c_spec_NatOf)], [], []⟩
theorem cons_spec_BigIntOf : ConsOk Try.prog E_spec_BigIntOf.cons := consOk_cons m_spec_l03Make (callable_of Try.func143 (by kernel_rfl)) (consOk_cons m_spec_NatOf (callable_of Try.func153 (by kernel_rfl)) (consOk_nil))
theorem loops_spec_BigIntOf : loopsIn code_spec_BigIntOf = [] := by kernel_rfl
theorem m_spec_BigIntOf : Meets Try.prog 118 c_spec_BigIntOf := meets_of (E := E_spec_BigIntOf) (code := code_spec_BigIntOf) mix layD_ok cons_spec_BigIntOf Try.func118 (by kernel_rfl) sg_spec_BigIntOf (by kernel_rfl) (fun y => (⟨y.1, y.2.1⟩ : Bg)) c_spec_BigIntOf.out (fun _ => rfl) c_spec_BigIntOf.run (fun x => by kernel_rfl) (by kernel_rfl) (loops_mem loops_spec_BigIntOf (trivial))

noncomputable def sg_spec_RatFromInt : Sig := ⟨[(false, [.d (.int .i64)])], [], false, [(true, [.d (.bool), .own 0, .own 1])], [(0, .arr false .int), (1, .arr false .int)]⟩
noncomputable def c_spec_RatFromInt : Con := ⟨sg_spec_RatFromInt, Rt, fun x => M_spec_RatFromInt x.1, fun r => (r.neg, r.mag, r.den, ())⟩
noncomputable def code_spec_RatFromInt : Code := Try.f70.body.getD .skip
noncomputable def E_spec_RatFromInt : Env := ⟨layD, [(118, c_spec_BigIntOf)], [], []⟩
theorem cons_spec_RatFromInt : ConsOk Try.prog E_spec_RatFromInt.cons := consOk_cons m_spec_BigIntOf (callable_of Try.func118 (by kernel_rfl)) (consOk_nil)
theorem loops_spec_RatFromInt : loopsIn code_spec_RatFromInt = [] := by kernel_rfl
theorem m_spec_RatFromInt : Meets Try.prog 70 c_spec_RatFromInt := meets_of (E := E_spec_RatFromInt) (code := code_spec_RatFromInt) mix layD_ok cons_spec_RatFromInt Try.func70 (by kernel_rfl) sg_spec_RatFromInt (by kernel_rfl) (fun y => (⟨y.1, y.2.1, y.2.2.1⟩ : Rt)) c_spec_RatFromInt.out (fun _ => rfl) c_spec_RatFromInt.run (fun x => by kernel_rfl) (by kernel_rfl) (loops_mem loops_spec_RatFromInt (trivial))

noncomputable def sg_spec_MatrixOf : Sig := ⟨[(false, [.d (.int .i64)]), (false, [.d (.int .i64)]), (false, [.d (.sl .int)])], [], false, [(true, [.d (.int .i64), .d (.int .i64), .dp 0])], [(0, .deep .rat)]⟩
noncomputable def c_spec_MatrixOf : Con := ⟨sg_spec_MatrixOf, Mx, fun x => M_spec_MatrixOf x.1 x.2.1 x.2.2.1, fun r => (r.rows, r.cols, r.cells, ())⟩
noncomputable def code_spec_MatrixOf : Code := Try.f23.body.getD .skip
noncomputable def body_spec_MatrixOf_0 : Code := (loopsIn code_spec_MatrixOf).getD 0 .skip
noncomputable def D_spec_MatrixOf_0 : LoopD := ⟨⟨mkSlots [(6, false, [.lp 384 0]), (7, false, [.lp 448 0]), (30, false, [.d (.sl .int)]), (31, false, [.d (.int .i64)]), (32, false, [.d (.int .i64)])] 45 0, [(384, .box [.d (.int .i64), .d (.int .i64), .d (.sl .rat)]), (448, .box [.d (.int .i64), .d (.int .i64), .dp 2944]), (2944, .deep .rat)]⟩, [(.boxD 448 2, 2944, .rat)], [(.exit 0, ⟨mkSlots [(6, false, [.lp 384 0]), (7, false, [.lp 448 0])] 45 0, [(384, .box [.d (.int .i64), .d (.int .i64), .d (.sl .rat)]), (448, .box [.d (.int .i64), .d (.int .i64), .dp 2944]), (2944, .deep .rat)]⟩, [(.boxD 448 2, 2944, .rat)])]⟩
noncomputable def S_spec_MatrixOf_0_w (x : Tys D_spec_MatrixOf_0.head.ks) : Option (OutT D_spec_MatrixOf_0.outs) := @whileO ((List Int) × Int × Int × Int × Int × (List Rt) × Int × Int × (List Rt) × Unit) (Int × Int × (List Rt) × Int × Int × (List Rt) × Unit) S_spec_MatrixOf_0 x
noncomputable def E_spec_MatrixOf : Env := ⟨layD, [(69, c_spec_l01In), (70, c_spec_RatFromInt)], [(5, mkLM D_spec_MatrixOf_0 S_spec_MatrixOf_0_w)], [(7, [(0, []), (1, []), (2, []), (3, [2]), (4, [3, 2]), (5, [1, 4, 3, 0, 2]), (6, []), (7, [6, 5, 0, 1, 2, 3, 4])])]⟩
theorem cons_spec_MatrixOf : ConsOk Try.prog E_spec_MatrixOf.cons := consOk_cons m_spec_l01In (callable_of Try.func69 (by kernel_rfl)) (consOk_cons m_spec_RatFromInt (callable_of Try.func70 (by kernel_rfl)) (consOk_nil))
theorem S_spec_MatrixOf_0_ok (x : Tys D_spec_MatrixOf_0.head.ks) : stepL E_spec_MatrixOf D_spec_MatrixOf_0 body_spec_MatrixOf_0 x = S_spec_MatrixOf_0 x := by kernel_rfl
theorem loops_spec_MatrixOf_0 : loopsIn body_spec_MatrixOf_0 = [] := by kernel_rfl
theorem l_spec_MatrixOf_0 : LoopOk Try.prog (mkLM D_spec_MatrixOf_0 S_spec_MatrixOf_0_w) body_spec_MatrixOf_0 := loop_ok2 mix layD_ok cons_spec_MatrixOf (by kernel_rfl) (loops_mem loops_spec_MatrixOf_0 (trivial)) S_spec_MatrixOf_0_ok fun _ _ h => h
theorem loops_spec_MatrixOf : loopsIn code_spec_MatrixOf = [body_spec_MatrixOf_0] := by kernel_rfl
theorem m_spec_MatrixOf : Meets Try.prog 23 c_spec_MatrixOf := meets_of (E := E_spec_MatrixOf) (code := code_spec_MatrixOf) mix layD_ok cons_spec_MatrixOf Try.func23 (by kernel_rfl) sg_spec_MatrixOf (by kernel_rfl) (fun y => (⟨y.1, y.2.1, y.2.2.1⟩ : Mx)) c_spec_MatrixOf.out (fun _ => rfl) c_spec_MatrixOf.run (fun x => by kernel_rfl) (by kernel_rfl) (loops_mem loops_spec_MatrixOf (⟨⟨_, by kernel_rfl, l_spec_MatrixOf_0⟩, trivial⟩))

noncomputable def sg_impl_isLength : Sig := ⟨[(false, [.d (.int .i64)])], [], false, [(false, [.d (.bool)])], []⟩
noncomputable def c_impl_isLength : Con := ⟨sg_impl_isLength, Bool, fun x => M_impl_isLength x.1, fun r => (r, ())⟩
noncomputable def code_impl_isLength : Code := Try.f71.body.getD .skip
noncomputable def E_impl_isLength : Env := ⟨layD, [], [], []⟩
theorem cons_impl_isLength : ConsOk Try.prog E_impl_isLength.cons := consOk_nil
theorem loops_impl_isLength : loopsIn code_impl_isLength = [] := by kernel_rfl
theorem m_impl_isLength : Meets Try.prog 71 c_impl_isLength := meets_of (E := E_impl_isLength) (code := code_impl_isLength) mix layD_ok cons_impl_isLength Try.func71 (by kernel_rfl) sg_impl_isLength (by kernel_rfl) (fun y => y.1) c_impl_isLength.out (fun _ => rfl) c_impl_isLength.run (fun x => by kernel_rfl) (by kernel_rfl) (loops_mem loops_impl_isLength (trivial))

noncomputable def sg_impl_NatOf : Sig := ⟨[(false, [.d (.int .i64)])], [], false, [(false, [.own 0])], [(0, .arr false .int)]⟩
noncomputable def c_impl_NatOf : Con := ⟨sg_impl_NatOf, List Int, fun x => M_impl_NatOf x.1, fun r => (r, ())⟩
noncomputable def code_impl_NatOf : Code := Try.f181.body.getD .skip
noncomputable def body_impl_NatOf_0 : Code := (loopsIn code_impl_NatOf).getD 0 .skip
noncomputable def D_impl_NatOf_0 : LoopD := ⟨⟨mkSlots [(0, false, [.d (.int .i64)]), (3, false, [.own 960])] 14 0, [(960, .arr false .int)]⟩, [(.slot 3 0, 960, .int)], [(.exit 0, ⟨mkSlots [(3, false, [.own 960])] 14 0, [(960, .arr false .int)]⟩, [(.slot 3 0, 960, .int)])]⟩
noncomputable def S_impl_NatOf_0_w (x : Tys D_impl_NatOf_0.head.ks) : Option (OutT D_impl_NatOf_0.outs) := @whileO (Int × (List Int) × Unit) ((List Int) × Unit) S_impl_NatOf_0 x
noncomputable def E_impl_NatOf : Env := ⟨layD, [], [(2, mkLM D_impl_NatOf_0 S_impl_NatOf_0_w)], []⟩
theorem cons_impl_NatOf : ConsOk Try.prog E_impl_NatOf.cons := consOk_nil
theorem S_impl_NatOf_0_ok (x : Tys D_impl_NatOf_0.head.ks) : stepL E_impl_NatOf D_impl_NatOf_0 body_impl_NatOf_0 x = S_impl_NatOf_0 x := by kernel_rfl
theorem loops_impl_NatOf_0 : loopsIn body_impl_NatOf_0 = [] := by kernel_rfl
theorem l_impl_NatOf_0 : LoopOk Try.prog (mkLM D_impl_NatOf_0 S_impl_NatOf_0_w) body_impl_NatOf_0 := loop_ok2 mix layD_ok cons_impl_NatOf (by kernel_rfl) (loops_mem loops_impl_NatOf_0 (trivial)) S_impl_NatOf_0_ok fun _ _ h => h
theorem loops_impl_NatOf : loopsIn code_impl_NatOf = [body_impl_NatOf_0] := by kernel_rfl
theorem m_impl_NatOf : Meets Try.prog 181 c_impl_NatOf := meets_of (E := E_impl_NatOf) (code := code_impl_NatOf) mix layD_ok cons_impl_NatOf Try.func181 (by kernel_rfl) sg_impl_NatOf (by kernel_rfl) (fun y => y.1) c_impl_NatOf.out (fun _ => rfl) c_impl_NatOf.run (fun x => by kernel_rfl) (by kernel_rfl) (loops_mem loops_impl_NatOf (⟨⟨_, by kernel_rfl, l_impl_NatOf_0⟩, trivial⟩))

noncomputable def sg_impl_signed_dc : Sig := ⟨[(false, [.d (.bool)]), (false, [.own 64])], [(64, .arr false .int)], false, [(true, [.d (.bool), .own 0])], [(0, .arr false .int)]⟩
noncomputable def c_impl_signed_dc : Con := ⟨sg_impl_signed_dc, Bg, fun x => M_impl_signed_dc x.1 x.2.1, fun r => (r.neg, r.mag, ())⟩
noncomputable def code_impl_signed_dc : Code := Try.f160.body.getD .skip
noncomputable def E_impl_signed_dc : Env := ⟨layD, [], [], []⟩
theorem cons_impl_signed_dc : ConsOk Try.prog E_impl_signed_dc.cons := consOk_nil
theorem loops_impl_signed_dc : loopsIn code_impl_signed_dc = [] := by kernel_rfl
theorem m_impl_signed_dc : Meets Try.prog 160 c_impl_signed_dc := meets_of (E := E_impl_signed_dc) (code := code_impl_signed_dc) mix layD_ok cons_impl_signed_dc Try.func160 (by kernel_rfl) sg_impl_signed_dc (by kernel_rfl) (fun y => (⟨y.1, y.2.1⟩ : Bg)) c_impl_signed_dc.out (fun _ => rfl) c_impl_signed_dc.run (fun x => by kernel_rfl) (by kernel_rfl) (loops_mem loops_impl_signed_dc (trivial))

noncomputable def sg_impl_natAdd : Sig := ⟨[(false, [.d (.sl .int)]), (false, [.d (.sl .int)])], [], false, [(false, [.own 0])], [(0, .arr false .int)]⟩
noncomputable def c_impl_natAdd : Con := ⟨sg_impl_natAdd, List Int, fun x => M_impl_natAdd x.1 x.2.1, fun r => (r, ())⟩
noncomputable def code_impl_natAdd : Code := Try.f161.body.getD .skip
noncomputable def body_impl_natAdd_0 : Code := (loopsIn code_impl_natAdd).getD 0 .skip
noncomputable def D_impl_natAdd_0 : LoopD := ⟨⟨mkSlots [(0, false, [.d (.sl .int)]), (1, false, [.d (.sl .int)]), (5, false, [.own 3648]), (6, false, [.d (.int .i64)]), (21, false, [.d (.int .i64)]), (22, false, [.d (.int .i64)])] 56 0, [(3648, .arr false .int)]⟩, [], [(.exit 0, ⟨mkSlots [(5, false, [.own 3648]), (6, false, [.d (.int .i64)])] 56 0, [(3648, .arr false .int)]⟩, [])]⟩
noncomputable def S_impl_natAdd_0_w (x : Tys D_impl_natAdd_0.head.ks) : Option (OutT D_impl_natAdd_0.outs) := @whileO ((List Int) × (List Int) × Int × Int × Int × (List Int) × Unit) (Int × (List Int) × Unit) S_impl_natAdd_0 x
noncomputable def E_impl_natAdd : Env := ⟨layD, [], [(6, mkLM D_impl_natAdd_0 S_impl_natAdd_0_w)], []⟩
theorem cons_impl_natAdd : ConsOk Try.prog E_impl_natAdd.cons := consOk_nil
theorem S_impl_natAdd_0_ok (x : Tys D_impl_natAdd_0.head.ks) : stepL E_impl_natAdd D_impl_natAdd_0 body_impl_natAdd_0 x = S_impl_natAdd_0 x := by kernel_rfl
theorem loops_impl_natAdd_0 : loopsIn body_impl_natAdd_0 = [] := by kernel_rfl
theorem l_impl_natAdd_0 : LoopOk Try.prog (mkLM D_impl_natAdd_0 S_impl_natAdd_0_w) body_impl_natAdd_0 := loop_ok2 mix layD_ok cons_impl_natAdd (by kernel_rfl) (loops_mem loops_impl_natAdd_0 (trivial)) S_impl_natAdd_0_ok fun _ _ h => h
theorem loops_impl_natAdd : loopsIn code_impl_natAdd = [body_impl_natAdd_0] := by kernel_rfl
theorem m_impl_natAdd : Meets Try.prog 161 c_impl_natAdd := meets_of (E := E_impl_natAdd) (code := code_impl_natAdd) mix layD_ok cons_impl_natAdd Try.func161 (by kernel_rfl) sg_impl_natAdd (by kernel_rfl) (fun y => y.1) c_impl_natAdd.out (fun _ => rfl) c_impl_natAdd.run (fun x => by kernel_rfl) (by kernel_rfl) (loops_mem loops_impl_natAdd (⟨⟨_, by kernel_rfl, l_impl_natAdd_0⟩, trivial⟩))

noncomputable def sg_impl_BigIntOf : Sig := ⟨[(false, [.d (.int .i64)])], [], false, [(true, [.d (.bool), .own 0])], [(0, .arr false .int)]⟩
noncomputable def c_impl_BigIntOf : Con := ⟨sg_impl_BigIntOf, Bg, fun x => M_impl_BigIntOf x.1, fun r => (r.neg, r.mag, ())⟩
noncomputable def code_impl_BigIntOf : Code := Try.f177.body.getD .skip
noncomputable def E_impl_BigIntOf : Env := ⟨layD, [(181, c_impl_NatOf), (160, c_impl_signed_dc), (161, c_impl_natAdd)], [], []⟩
theorem cons_impl_BigIntOf : ConsOk Try.prog E_impl_BigIntOf.cons := consOk_cons m_impl_NatOf (callable_of Try.func181 (by kernel_rfl)) (consOk_cons m_impl_signed_dc (callable_of Try.func160 (by kernel_rfl)) (consOk_cons m_impl_natAdd (callable_of Try.func161 (by kernel_rfl)) (consOk_nil)))
theorem loops_impl_BigIntOf : loopsIn code_impl_BigIntOf = [] := by kernel_rfl
theorem m_impl_BigIntOf : Meets Try.prog 177 c_impl_BigIntOf := meets_of (E := E_impl_BigIntOf) (code := code_impl_BigIntOf) mix layD_ok cons_impl_BigIntOf Try.func177 (by kernel_rfl) sg_impl_BigIntOf (by kernel_rfl) (fun y => (⟨y.1, y.2.1⟩ : Bg)) c_impl_BigIntOf.out (fun _ => rfl) c_impl_BigIntOf.run (fun x => by kernel_rfl) (by kernel_rfl) (loops_mem loops_impl_BigIntOf (trivial))

noncomputable def sg_impl_NatOk : Sig := ⟨[(false, [.d (.sl .int)])], [], false, [(false, [.d (.bool)])], []⟩
noncomputable def c_impl_NatOk : Con := ⟨sg_impl_NatOk, Bool, fun x => M_impl_NatOk x.1, fun r => (r, ())⟩
noncomputable def code_impl_NatOk : Code := Try.f156.body.getD .skip
noncomputable def body_impl_NatOk_0 : Code := (loopsIn code_impl_NatOk).getD 0 .skip
noncomputable def D_impl_NatOk_0 : LoopD := ⟨⟨mkSlots [(22, false, [.d (.sl .int)]), (23, false, [.d (.int .i64)]), (24, false, [.d (.int .i64)])] 35 0, []⟩, [], [(.ret, ⟨mkSlots [(2, false, [.d (.bool)])] 35 0, []⟩, []), (.exit 0, ⟨mkSlots [] 35 0, []⟩, [])]⟩
noncomputable def S_impl_NatOk_0_w (x : Tys D_impl_NatOk_0.head.ks) : Option (OutT D_impl_NatOk_0.outs) := @whileO ((List Int) × Int × Int × Unit) ((Bool × Unit) ⊕ (Unit)) S_impl_NatOk_0 x
noncomputable def E_impl_NatOk : Env := ⟨layD, [], [(4, mkLM D_impl_NatOk_0 S_impl_NatOk_0_w)], []⟩
theorem cons_impl_NatOk : ConsOk Try.prog E_impl_NatOk.cons := consOk_nil
theorem S_impl_NatOk_0_ok (x : Tys D_impl_NatOk_0.head.ks) : stepL E_impl_NatOk D_impl_NatOk_0 body_impl_NatOk_0 x = S_impl_NatOk_0 x := by kernel_rfl
theorem loops_impl_NatOk_0 : loopsIn body_impl_NatOk_0 = [] := by kernel_rfl
theorem l_impl_NatOk_0 : LoopOk Try.prog (mkLM D_impl_NatOk_0 S_impl_NatOk_0_w) body_impl_NatOk_0 := loop_ok2 mix layD_ok cons_impl_NatOk (by kernel_rfl) (loops_mem loops_impl_NatOk_0 (trivial)) S_impl_NatOk_0_ok fun _ _ h => h
theorem loops_impl_NatOk : loopsIn code_impl_NatOk = [body_impl_NatOk_0] := by kernel_rfl
theorem m_impl_NatOk : Meets Try.prog 156 c_impl_NatOk := meets_of (E := E_impl_NatOk) (code := code_impl_NatOk) mix layD_ok cons_impl_NatOk Try.func156 (by kernel_rfl) sg_impl_NatOk (by kernel_rfl) (fun y => y.1) c_impl_NatOk.out (fun _ => rfl) c_impl_NatOk.run (fun x => by kernel_rfl) (by kernel_rfl) (loops_mem loops_impl_NatOk (⟨⟨_, by kernel_rfl, l_impl_NatOk_0⟩, trivial⟩))

noncomputable def sg_impl_BigIntOk : Sig := ⟨[(true, [.d (.bool), .d (.sl .int)])], [], false, [(false, [.d (.bool)])], []⟩
noncomputable def c_impl_BigIntOk : Con := ⟨sg_impl_BigIntOk, Bool, fun x => M_impl_BigIntOk (⟨x.1, x.2.1⟩ : Bg), fun r => (r, ())⟩
noncomputable def code_impl_BigIntOk : Code := Try.f155.body.getD .skip
noncomputable def E_impl_BigIntOk : Env := ⟨layD, [(156, c_impl_NatOk)], [], []⟩
theorem cons_impl_BigIntOk : ConsOk Try.prog E_impl_BigIntOk.cons := consOk_cons m_impl_NatOk (callable_of Try.func156 (by kernel_rfl)) (consOk_nil)
theorem loops_impl_BigIntOk : loopsIn code_impl_BigIntOk = [] := by kernel_rfl
theorem m_impl_BigIntOk : Meets Try.prog 155 c_impl_BigIntOk := meets_of (E := E_impl_BigIntOk) (code := code_impl_BigIntOk) mix layD_ok cons_impl_BigIntOk Try.func155 (by kernel_rfl) sg_impl_BigIntOk (by kernel_rfl) (fun y => y.1) c_impl_BigIntOk.out (fun _ => rfl) c_impl_BigIntOk.run (fun x => by kernel_rfl) (by kernel_rfl) (loops_mem loops_impl_BigIntOk (trivial))

noncomputable def sg_impl_signed : Sig := ⟨[(false, [.d (.bool)]), (false, [.d (.sl .int)])], [], false, [(true, [.d (.bool), .d (.sl .int)])], []⟩
noncomputable def c_impl_signed : Con := ⟨sg_impl_signed, Bg, fun x => M_impl_signed x.1 x.2.1, fun r => (r.neg, r.mag, ())⟩
noncomputable def code_impl_signed : Code := Try.f160.body.getD .skip
noncomputable def E_impl_signed : Env := ⟨layD, [], [], []⟩
theorem cons_impl_signed : ConsOk Try.prog E_impl_signed.cons := consOk_nil
theorem loops_impl_signed : loopsIn code_impl_signed = [] := by kernel_rfl
theorem m_impl_signed : Meets Try.prog 160 c_impl_signed := meets_of (E := E_impl_signed) (code := code_impl_signed) mix layD_ok cons_impl_signed Try.func160 (by kernel_rfl) sg_impl_signed (by kernel_rfl) (fun y => (⟨y.1, y.2.1⟩ : Bg)) c_impl_signed.out (fun _ => rfl) c_impl_signed.run (fun x => by kernel_rfl) (by kernel_rfl) (loops_mem loops_impl_signed (trivial))

noncomputable def sg_impl_natCmp : Sig := ⟨[(false, [.d (.sl .int)]), (false, [.d (.sl .int)])], [], false, [(false, [.d (.int .i64)])], []⟩
noncomputable def c_impl_natCmp : Con := ⟨sg_impl_natCmp, Int, fun x => M_impl_natCmp x.1 x.2.1, fun r => (r, ())⟩
noncomputable def code_impl_natCmp : Code := Try.f162.body.getD .skip
noncomputable def body_impl_natCmp_0 : Code := (loopsIn code_impl_natCmp).getD 0 .skip
noncomputable def D_impl_natCmp_0 : LoopD := ⟨⟨mkSlots [(0, false, [.d (.sl .int)]), (1, false, [.d (.sl .int)]), (5, false, [.d (.int .i64)])] 43 0, []⟩, [], [(.ret, ⟨mkSlots [(4, false, [.d (.int .i64)])] 43 0, []⟩, []), (.exit 0, ⟨mkSlots [] 43 0, []⟩, [])]⟩
noncomputable def S_impl_natCmp_0_w (x : Tys D_impl_natCmp_0.head.ks) : Option (OutT D_impl_natCmp_0.outs) := @whileO ((List Int) × (List Int) × Int × Unit) ((Int × Unit) ⊕ (Unit)) S_impl_natCmp_0 x
noncomputable def E_impl_natCmp : Env := ⟨layD, [], [(6, mkLM D_impl_natCmp_0 S_impl_natCmp_0_w)], [(8, [(0, []), (1, []), (2, []), (3, []), (4, []), (5, []), (6, []), (7, []), (8, []), (9, [8, 3, 7, 2, 6, 0, 1, 4, 5])]), (10, [(0, []), (1, []), (2, []), (3, []), (4, []), (5, []), (6, []), (7, []), (8, []), (9, [8, 3, 7, 2, 6, 0, 1, 4, 5])])]⟩
theorem cons_impl_natCmp : ConsOk Try.prog E_impl_natCmp.cons := consOk_nil
theorem S_impl_natCmp_0_ok (x : Tys D_impl_natCmp_0.head.ks) : stepL E_impl_natCmp D_impl_natCmp_0 body_impl_natCmp_0 x = S_impl_natCmp_0 x := by kernel_rfl
theorem loops_impl_natCmp_0 : loopsIn body_impl_natCmp_0 = [] := by kernel_rfl
theorem l_impl_natCmp_0 : LoopOk Try.prog (mkLM D_impl_natCmp_0 S_impl_natCmp_0_w) body_impl_natCmp_0 := loop_ok2 mix layD_ok cons_impl_natCmp (by kernel_rfl) (loops_mem loops_impl_natCmp_0 (trivial)) S_impl_natCmp_0_ok fun _ _ h => h
theorem loops_impl_natCmp : loopsIn code_impl_natCmp = [body_impl_natCmp_0] := by kernel_rfl
theorem m_impl_natCmp : Meets Try.prog 162 c_impl_natCmp := meets_of (E := E_impl_natCmp) (code := code_impl_natCmp) mix layD_ok cons_impl_natCmp Try.func162 (by kernel_rfl) sg_impl_natCmp (by kernel_rfl) (fun y => y.1) c_impl_natCmp.out (fun _ => rfl) c_impl_natCmp.run (fun x => by kernel_rfl) (by kernel_rfl) (loops_mem loops_impl_natCmp (⟨⟨_, by kernel_rfl, l_impl_natCmp_0⟩, trivial⟩))

noncomputable def sg_impl_copyInts : Sig := ⟨[(false, [.d (.sl .int)])], [], false, [(false, [.own 0])], [(0, .arr false .int)]⟩
noncomputable def c_impl_copyInts : Con := ⟨sg_impl_copyInts, List Int, fun x => M_impl_copyInts x.1, fun r => (r, ())⟩
noncomputable def code_impl_copyInts : Code := Try.f121.body.getD .skip
noncomputable def E_impl_copyInts : Env := ⟨layD, [], [], []⟩
theorem cons_impl_copyInts : ConsOk Try.prog E_impl_copyInts.cons := consOk_nil
theorem loops_impl_copyInts : loopsIn code_impl_copyInts = [] := by kernel_rfl
theorem m_impl_copyInts : Meets Try.prog 121 c_impl_copyInts := meets_of (E := E_impl_copyInts) (code := code_impl_copyInts) mix layD_ok cons_impl_copyInts Try.func121 (by kernel_rfl) sg_impl_copyInts (by kernel_rfl) (fun y => y.1) c_impl_copyInts.out (fun _ => rfl) c_impl_copyInts.run (fun x => by kernel_rfl) (by kernel_rfl) (loops_mem loops_impl_copyInts (trivial))

noncomputable def sg_impl_trim_c : Sig := ⟨[(false, [.own 0])], [(0, .arr false .int)], false, [(false, [.own 0])], [(0, .arr false .int)]⟩
noncomputable def c_impl_trim_c : Con := ⟨sg_impl_trim_c, List Int, fun x => M_impl_trim_c x.1, fun r => (r, ())⟩
noncomputable def code_impl_trim_c : Code := Try.f164.body.getD .skip
noncomputable def body_impl_trim_c_0 : Code := (loopsIn code_impl_trim_c).getD 0 .skip
noncomputable def D_impl_trim_c_0 : LoopD := ⟨⟨mkSlots [(0, false, [.own 1408]), (3, false, [.d (.int .i64)])] 21 0, [(1408, .arr false .int)]⟩, [], [(.exit 0, ⟨mkSlots [(0, false, [.own 1408]), (3, false, [.d (.int .i64)])] 21 0, [(1408, .arr false .int)]⟩, [])]⟩
noncomputable def S_impl_trim_c_0_w (x : Tys D_impl_trim_c_0.head.ks) : Option (OutT D_impl_trim_c_0.outs) := @whileO (Int × (List Int) × Unit) (Int × (List Int) × Unit) S_impl_trim_c_0 x
noncomputable def E_impl_trim_c : Env := ⟨layD, [], [(2, mkLM D_impl_trim_c_0 S_impl_trim_c_0_w)], []⟩
theorem cons_impl_trim_c : ConsOk Try.prog E_impl_trim_c.cons := consOk_nil
theorem S_impl_trim_c_0_ok (x : Tys D_impl_trim_c_0.head.ks) : stepL E_impl_trim_c D_impl_trim_c_0 body_impl_trim_c_0 x = S_impl_trim_c_0 x := by kernel_rfl
theorem loops_impl_trim_c_0 : loopsIn body_impl_trim_c_0 = [] := by kernel_rfl
theorem l_impl_trim_c_0 : LoopOk Try.prog (mkLM D_impl_trim_c_0 S_impl_trim_c_0_w) body_impl_trim_c_0 := loop_ok2 mix layD_ok cons_impl_trim_c (by kernel_rfl) (loops_mem loops_impl_trim_c_0 (trivial)) S_impl_trim_c_0_ok fun _ _ h => h
theorem loops_impl_trim_c : loopsIn code_impl_trim_c = [body_impl_trim_c_0] := by kernel_rfl
theorem m_impl_trim_c : Meets Try.prog 164 c_impl_trim_c := meets_of (E := E_impl_trim_c) (code := code_impl_trim_c) mix layD_ok cons_impl_trim_c Try.func164 (by kernel_rfl) sg_impl_trim_c (by kernel_rfl) (fun y => y.1) c_impl_trim_c.out (fun _ => rfl) c_impl_trim_c.run (fun x => by kernel_rfl) (by kernel_rfl) (loops_mem loops_impl_trim_c (⟨⟨_, by kernel_rfl, l_impl_trim_c_0⟩, trivial⟩))

noncomputable def sg_impl_divSmall : Sig := ⟨[(false, [.d (.sl .int)]), (false, [.d (.int .i64)])], [], true, [(false, [.own 0]), (false, [.own 1])], [(0, .arr false .int), (1, .arr false .int)]⟩
noncomputable def c_impl_divSmall : Con := ⟨sg_impl_divSmall, List Int × List Int, fun x => M_impl_divSmall x.1 x.2.1, fun r => (r.1, r.2, ())⟩
noncomputable def code_impl_divSmall : Code := Try.f178.body.getD .skip
noncomputable def body_impl_divSmall_0 : Code := (loopsIn code_impl_divSmall).getD 0 .skip
noncomputable def D_impl_divSmall_0 : LoopD := ⟨⟨mkSlots [(0, false, [.d (.sl .int)]), (1, false, [.d (.int .i64)]), (6, false, [.own 2624]), (7, false, [.d (.int .i64)]), (8, false, [.d (.int .i64)])] 40 0, [(2624, .arr false .int)]⟩, [], [(.exit 0, ⟨mkSlots [(6, false, [.own 2624]), (7, false, [.d (.int .i64)])] 40 0, [(2624, .arr false .int)]⟩, [])]⟩
noncomputable def S_impl_divSmall_0_w (x : Tys D_impl_divSmall_0.head.ks) : Option (OutT D_impl_divSmall_0.outs) := @whileO ((List Int) × Int × Int × Int × (List Int) × Unit) (Int × (List Int) × Unit) S_impl_divSmall_0 x
noncomputable def E_impl_divSmall : Env := ⟨layD, [(164, c_impl_trim_c), (181, c_impl_NatOf)], [(4, mkLM D_impl_divSmall_0 S_impl_divSmall_0_w)], []⟩
theorem cons_impl_divSmall : ConsOk Try.prog E_impl_divSmall.cons := consOk_cons m_impl_trim_c (callable_of Try.func164 (by kernel_rfl)) (consOk_cons m_impl_NatOf (callable_of Try.func181 (by kernel_rfl)) (consOk_nil))
theorem S_impl_divSmall_0_ok (x : Tys D_impl_divSmall_0.head.ks) : stepL E_impl_divSmall D_impl_divSmall_0 body_impl_divSmall_0 x = S_impl_divSmall_0 x := by kernel_rfl
theorem loops_impl_divSmall_0 : loopsIn body_impl_divSmall_0 = [] := by kernel_rfl
theorem l_impl_divSmall_0 : LoopOk Try.prog (mkLM D_impl_divSmall_0 S_impl_divSmall_0_w) body_impl_divSmall_0 := loop_ok2 mix layD_ok cons_impl_divSmall (by kernel_rfl) (loops_mem loops_impl_divSmall_0 (trivial)) S_impl_divSmall_0_ok fun _ _ h => h
theorem loops_impl_divSmall : loopsIn code_impl_divSmall = [body_impl_divSmall_0] := by kernel_rfl
theorem m_impl_divSmall : Meets Try.prog 178 c_impl_divSmall := meets_of (E := E_impl_divSmall) (code := code_impl_divSmall) mix layD_ok cons_impl_divSmall Try.func178 (by kernel_rfl) sg_impl_divSmall (by kernel_rfl) (fun y => (y.1, y.2.1)) c_impl_divSmall.out (fun _ => rfl) c_impl_divSmall.run (fun x => by kernel_rfl) (by kernel_rfl) (loops_mem loops_impl_divSmall (⟨⟨_, by kernel_rfl, l_impl_divSmall_0⟩, trivial⟩))

noncomputable def sg_impl_natMul : Sig := ⟨[(false, [.d (.sl .int)]), (false, [.d (.sl .int)])], [], false, [(false, [.own 0])], [(0, .arr false .int)]⟩
noncomputable def c_impl_natMul : Con := ⟨sg_impl_natMul, List Int, fun x => M_impl_natMul x.1 x.2.1, fun r => (r, ())⟩
noncomputable def code_impl_natMul : Code := Try.f128.body.getD .skip
noncomputable def body_impl_natMul_0 : Code := (loopsIn code_impl_natMul).getD 0 .skip
noncomputable def body_impl_natMul_1 : Code := (loopsIn body_impl_natMul_0).getD 0 .skip
noncomputable def D_impl_natMul_0 : LoopD := ⟨⟨mkSlots [(1, false, [.d (.sl .int)]), (5, false, [.own 4352]), (18, false, [.d (.sl .int)]), (19, false, [.d (.int .i64)]), (20, false, [.d (.int .i64)])] 67 0, [(4352, .arr false .int)]⟩, [], [(.exit 0, ⟨mkSlots [(5, false, [.own 4352])] 67 0, [(4352, .arr false .int)]⟩, [])]⟩
noncomputable def D_impl_natMul_1 : LoopD := ⟨⟨mkSlots [(1, false, [.d (.sl .int)]), (5, false, [.own 4352]), (6, false, [.d (.int .i64)]), (7, false, [.d (.int .i64)]), (8, false, [.d (.int .i64)]), (18, false, [.d (.sl .int)]), (19, false, [.d (.int .i64)]), (20, false, [.d (.int .i64)]), (25, false, [.d (.sl .int)]), (26, false, [.d (.int .i64)]), (27, false, [.d (.int .i64)])] 67 0, [(4352, .arr false .int)]⟩, [], [(.exit 2, ⟨mkSlots [(1, false, [.d (.sl .int)]), (5, false, [.own 4352]), (6, false, [.d (.int .i64)]), (8, false, [.d (.int .i64)]), (18, false, [.d (.sl .int)]), (19, false, [.d (.int .i64)]), (20, false, [.d (.int .i64)])] 67 0, [(4352, .arr false .int)]⟩, [])]⟩
noncomputable def S_impl_natMul_0_w (x : Tys D_impl_natMul_0.head.ks) : Option (OutT D_impl_natMul_0.outs) := @whileO ((List Int) × (List Int) × Int × Int × (List Int) × Unit) ((List Int) × Unit) S_impl_natMul_0 x
noncomputable def S_impl_natMul_1_w (x : Tys D_impl_natMul_1.head.ks) : Option (OutT D_impl_natMul_1.outs) := @whileO ((List Int) × Int × Int × Int × (List Int) × Int × Int × (List Int) × Int × Int × (List Int) × Unit) ((List Int) × Int × Int × (List Int) × Int × Int × (List Int) × Unit) S_impl_natMul_1 x
noncomputable def E_impl_natMul : Env := ⟨layD, [(164, c_impl_trim_c)], [(3, mkLM D_impl_natMul_0 S_impl_natMul_0_w), (7, mkLM D_impl_natMul_1 S_impl_natMul_1_w)], []⟩
theorem cons_impl_natMul : ConsOk Try.prog E_impl_natMul.cons := consOk_cons m_impl_trim_c (callable_of Try.func164 (by kernel_rfl)) (consOk_nil)
theorem S_impl_natMul_1_ok (x : Tys D_impl_natMul_1.head.ks) : stepL E_impl_natMul D_impl_natMul_1 body_impl_natMul_1 x = S_impl_natMul_1 x := by kernel_rfl
theorem loops_impl_natMul_1 : loopsIn body_impl_natMul_1 = [] := by kernel_rfl
theorem l_impl_natMul_1 : LoopOk Try.prog (mkLM D_impl_natMul_1 S_impl_natMul_1_w) body_impl_natMul_1 := loop_ok2 mix layD_ok cons_impl_natMul (by kernel_rfl) (loops_mem loops_impl_natMul_1 (trivial)) S_impl_natMul_1_ok fun _ _ h => h
theorem S_impl_natMul_0_ok (x : Tys D_impl_natMul_0.head.ks) : stepL E_impl_natMul D_impl_natMul_0 body_impl_natMul_0 x = S_impl_natMul_0 x := by kernel_rfl
theorem loops_impl_natMul_0 : loopsIn body_impl_natMul_0 = [body_impl_natMul_1] := by kernel_rfl
theorem l_impl_natMul_0 : LoopOk Try.prog (mkLM D_impl_natMul_0 S_impl_natMul_0_w) body_impl_natMul_0 := loop_ok2 mix layD_ok cons_impl_natMul (by kernel_rfl) (loops_mem loops_impl_natMul_0 (⟨⟨_, by kernel_rfl, l_impl_natMul_1⟩, trivial⟩)) S_impl_natMul_0_ok fun _ _ h => h
theorem loops_impl_natMul : loopsIn code_impl_natMul = [body_impl_natMul_0] := by kernel_rfl
theorem m_impl_natMul : Meets Try.prog 128 c_impl_natMul := meets_of (E := E_impl_natMul) (code := code_impl_natMul) mix layD_ok cons_impl_natMul Try.func128 (by kernel_rfl) sg_impl_natMul (by kernel_rfl) (fun y => y.1) c_impl_natMul.out (fun _ => rfl) c_impl_natMul.run (fun x => by kernel_rfl) (by kernel_rfl) (loops_mem loops_impl_natMul (⟨⟨_, by kernel_rfl, l_impl_natMul_0⟩, trivial⟩))

noncomputable def sg_impl_natDiv : Sig := ⟨[(false, [.d (.sl .int)]), (false, [.d (.sl .int)])], [], true, [(false, [.own 0]), (false, [.own 1])], [(0, .arr false .int), (1, .arr false .int)]⟩
noncomputable def c_impl_natDiv : Con := ⟨sg_impl_natDiv, List Int × List Int, fun x => M_impl_natDiv x.1 x.2.1, fun r => (r.1, r.2, ())⟩
noncomputable def code_impl_natDiv : Code := Try.f159.body.getD .skip
noncomputable def body_impl_natDiv_0 : Code := (loopsIn code_impl_natDiv).getD 0 .skip
noncomputable def body_impl_natDiv_1 : Code := (loopsIn code_impl_natDiv).getD 1 .skip
noncomputable def body_impl_natDiv_2 : Code := (loopsIn body_impl_natDiv_1).getD 0 .skip
noncomputable def body_impl_natDiv_3 : Code := (loopsIn body_impl_natDiv_1).getD 1 .skip
noncomputable def body_impl_natDiv_4 : Code := (loopsIn body_impl_natDiv_1).getD 2 .skip
noncomputable def D_impl_natDiv_0 : LoopD := ⟨⟨mkSlots [(0, false, [.d (.sl .int)]), (6, false, [.d (.int .i64)]), (7, false, [.own 15360]), (8, false, [.own 15424]), (9, false, [.d (.int .i64)])] 239 0, [(15360, .arr false .int), (15424, .arr false .int)]⟩, [], [(.exit 0, ⟨mkSlots [(6, false, [.d (.int .i64)]), (7, false, [.own 15360]), (8, false, [.own 15424]), (9, false, [.d (.int .i64)])] 239 0, [(15360, .arr false .int), (15424, .arr false .int)]⟩, [])]⟩
noncomputable def D_impl_natDiv_1 : LoopD := ⟨⟨mkSlots [(6, false, [.d (.int .i64)]), (7, false, [.own 15360]), (8, false, [.own 15424]), (9, false, [.d (.int .i64)]), (10, false, [.own 15488]), (11, false, [.d (.int .i64)]), (12, false, [.d (.int .i64)])] 239 0, [(15360, .arr false .int), (15424, .arr false .int), (15488, .arr false .int)]⟩, [], [(.exit 2, ⟨mkSlots [(6, false, [.d (.int .i64)]), (7, false, [.own 15360]), (10, false, [.own 15488])] 239 0, [(15360, .arr false .int), (15488, .arr false .int)]⟩, [])]⟩
noncomputable def D_impl_natDiv_2 : LoopD := ⟨⟨mkSlots [(6, false, [.d (.int .i64)]), (7, false, [.own 15360]), (8, false, [.own 15424]), (9, false, [.d (.int .i64)]), (10, false, [.own 15488]), (11, false, [.d (.int .i64)]), (12, false, [.d (.int .i64)]), (14, false, [.d (.int .i64)]), (15, false, [.d (.int .i64)])] 239 0, [(15360, .arr false .int), (15424, .arr false .int), (15488, .arr false .int)]⟩, [], [(.exit 4, ⟨mkSlots [(6, false, [.d (.int .i64)]), (7, false, [.own 15360]), (8, false, [.own 15424]), (9, false, [.d (.int .i64)]), (10, false, [.own 15488]), (11, false, [.d (.int .i64)]), (12, false, [.d (.int .i64)]), (14, false, [.d (.int .i64)])] 239 0, [(15360, .arr false .int), (15424, .arr false .int), (15488, .arr false .int)]⟩, [])]⟩
noncomputable def D_impl_natDiv_3 : LoopD := ⟨⟨mkSlots [(6, false, [.d (.int .i64)]), (7, false, [.own 15360]), (8, false, [.own 15424]), (9, false, [.d (.int .i64)]), (10, false, [.own 15488]), (11, false, [.d (.int .i64)]), (12, false, [.d (.int .i64)]), (14, false, [.d (.int .i64)]), (16, false, [.d (.int .i64)]), (135, false, [.d (.int .i64)]), (136, false, [.d (.int .i64)])] 239 0, [(15360, .arr false .int), (15424, .arr false .int), (15488, .arr false .int)]⟩, [], [(.exit 6, ⟨mkSlots [(6, false, [.d (.int .i64)]), (7, false, [.own 15360]), (8, false, [.own 15424]), (9, false, [.d (.int .i64)]), (10, false, [.own 15488]), (11, false, [.d (.int .i64)]), (12, false, [.d (.int .i64)]), (14, false, [.d (.int .i64)]), (16, false, [.d (.int .i64)])] 239 0, [(15360, .arr false .int), (15424, .arr false .int), (15488, .arr false .int)]⟩, [])]⟩
noncomputable def D_impl_natDiv_4 : LoopD := ⟨⟨mkSlots [(6, false, [.d (.int .i64)]), (7, false, [.own 15360]), (8, false, [.own 15424]), (9, false, [.d (.int .i64)]), (10, false, [.own 15488]), (11, false, [.d (.int .i64)]), (12, false, [.d (.int .i64)]), (14, false, [.d (.int .i64)]), (19, false, [.d (.int .i64)]), (188, false, [.d (.int .i64)]), (189, false, [.d (.int .i64)])] 239 0, [(15360, .arr false .int), (15424, .arr false .int), (15488, .arr false .int)]⟩, [], [(.exit 8, ⟨mkSlots [(6, false, [.d (.int .i64)]), (7, false, [.own 15360]), (8, false, [.own 15424]), (9, false, [.d (.int .i64)]), (10, false, [.own 15488]), (11, false, [.d (.int .i64)]), (12, false, [.d (.int .i64)]), (14, false, [.d (.int .i64)]), (19, false, [.d (.int .i64)])] 239 0, [(15360, .arr false .int), (15424, .arr false .int), (15488, .arr false .int)]⟩, [])]⟩
noncomputable def S_impl_natDiv_0_w (x : Tys D_impl_natDiv_0.head.ks) : Option (OutT D_impl_natDiv_0.outs) := @whileO ((List Int) × Int × Int × (List Int) × (List Int) × Unit) (Int × Int × (List Int) × (List Int) × Unit) S_impl_natDiv_0 x
noncomputable def S_impl_natDiv_1_w (x : Tys D_impl_natDiv_1.head.ks) : Option (OutT D_impl_natDiv_1.outs) := @whileO (Int × Int × Int × Int × (List Int) × (List Int) × (List Int) × Unit) (Int × (List Int) × (List Int) × Unit) S_impl_natDiv_1 x
noncomputable def S_impl_natDiv_2_w (x : Tys D_impl_natDiv_2.head.ks) : Option (OutT D_impl_natDiv_2.outs) := @whileO (Int × Int × Int × Int × Int × Int × (List Int) × (List Int) × (List Int) × Unit) (Int × Int × Int × Int × Int × (List Int) × (List Int) × (List Int) × Unit) S_impl_natDiv_2 x
noncomputable def S_impl_natDiv_3_w (x : Tys D_impl_natDiv_3.head.ks) : Option (OutT D_impl_natDiv_3.outs) := @whileO (Int × Int × Int × Int × Int × Int × Int × Int × (List Int) × (List Int) × (List Int) × Unit) (Int × Int × Int × Int × Int × Int × (List Int) × (List Int) × (List Int) × Unit) S_impl_natDiv_3 x
noncomputable def S_impl_natDiv_4_w (x : Tys D_impl_natDiv_4.head.ks) : Option (OutT D_impl_natDiv_4.outs) := @whileO (Int × Int × Int × Int × Int × Int × Int × Int × (List Int) × (List Int) × (List Int) × Unit) (Int × Int × Int × Int × Int × Int × (List Int) × (List Int) × (List Int) × Unit) S_impl_natDiv_4 x
noncomputable def E_impl_natDiv : Env := ⟨layD, [(162, c_impl_natCmp), (121, c_impl_copyInts), (178, c_impl_divSmall), (128, c_impl_natMul), (164, c_impl_trim_c)], [(9, mkLM D_impl_natDiv_0 S_impl_natDiv_0_w), (14, mkLM D_impl_natDiv_1 S_impl_natDiv_1_w), (18, mkLM D_impl_natDiv_2 S_impl_natDiv_2_w), (24, mkLM D_impl_natDiv_3 S_impl_natDiv_3_w), (38, mkLM D_impl_natDiv_4 S_impl_natDiv_4_w)], [(16, [(0, []), (1, []), (2, []), (3, []), (4, []), (5, []), (6, []), (7, []), (8, []), (9, []), (10, []), (11, []), (12, []), (13, []), (14, []), (15, [14, 0, 1, 2, 3, 4, 5, 6, 7, 8, 9, 10, 11, 12, 13])]), (17, [(0, []), (1, []), (2, []), (3, []), (4, []), (5, []), (6, [2, 0, 1]), (7, [5, 6, 0, 1, 2, 3, 4])]), (18, [(0, []), (1, []), (2, []), (3, []), (4, []), (5, []), (6, []), (7, []), (8, []), (9, []), (10, []), (11, []), (12, []), (13, []), (14, []), (15, []), (16, []), (17, []), (18, []), (19, []), (20, []), (21, [])]), (26, [(0, []), (1, []), (2, []), (3, []), (4, []), (5, []), (6, []), (7, []), (8, []), (9, []), (10, []), (11, []), (12, []), (13, []), (14, []), (15, [14, 0, 1, 2, 3, 4, 5, 6, 7, 8, 9, 10, 11, 12, 13])]), (40, [(0, []), (1, []), (2, []), (3, []), (4, []), (5, []), (6, []), (7, []), (8, []), (9, []), (10, []), (11, []), (12, []), (13, [12, 0, 1, 2, 3, 4, 5, 6, 7, 8, 9, 10, 11])])]⟩
theorem cons_impl_natDiv : ConsOk Try.prog E_impl_natDiv.cons := consOk_cons m_impl_natCmp (callable_of Try.func162 (by kernel_rfl)) (consOk_cons m_impl_copyInts (callable_of Try.func121 (by kernel_rfl)) (consOk_cons m_impl_divSmall (callable_of Try.func178 (by kernel_rfl)) (consOk_cons m_impl_natMul (callable_of Try.func128 (by kernel_rfl)) (consOk_cons m_impl_trim_c (callable_of Try.func164 (by kernel_rfl)) (consOk_nil)))))
theorem S_impl_natDiv_4_ok (x : Tys D_impl_natDiv_4.head.ks) : stepL E_impl_natDiv D_impl_natDiv_4 body_impl_natDiv_4 x = S_impl_natDiv_4 x := by kernel_rfl
theorem loops_impl_natDiv_4 : loopsIn body_impl_natDiv_4 = [] := by kernel_rfl
theorem l_impl_natDiv_4 : LoopOk Try.prog (mkLM D_impl_natDiv_4 S_impl_natDiv_4_w) body_impl_natDiv_4 := loop_ok2 mix layD_ok cons_impl_natDiv (by kernel_rfl) (loops_mem loops_impl_natDiv_4 (trivial)) S_impl_natDiv_4_ok fun _ _ h => h
theorem S_impl_natDiv_3_ok (x : Tys D_impl_natDiv_3.head.ks) : stepL E_impl_natDiv D_impl_natDiv_3 body_impl_natDiv_3 x = S_impl_natDiv_3 x := by kernel_rfl
theorem loops_impl_natDiv_3 : loopsIn body_impl_natDiv_3 = [] := by kernel_rfl
theorem l_impl_natDiv_3 : LoopOk Try.prog (mkLM D_impl_natDiv_3 S_impl_natDiv_3_w) body_impl_natDiv_3 := loop_ok2 mix layD_ok cons_impl_natDiv (by kernel_rfl) (loops_mem loops_impl_natDiv_3 (trivial)) S_impl_natDiv_3_ok fun _ _ h => h
theorem S_impl_natDiv_2_ok (x : Tys D_impl_natDiv_2.head.ks) : stepL E_impl_natDiv D_impl_natDiv_2 body_impl_natDiv_2 x = S_impl_natDiv_2 x := by kernel_rfl
theorem loops_impl_natDiv_2 : loopsIn body_impl_natDiv_2 = [] := by kernel_rfl
theorem l_impl_natDiv_2 : LoopOk Try.prog (mkLM D_impl_natDiv_2 S_impl_natDiv_2_w) body_impl_natDiv_2 := loop_ok2 mix layD_ok cons_impl_natDiv (by kernel_rfl) (loops_mem loops_impl_natDiv_2 (trivial)) S_impl_natDiv_2_ok fun _ _ h => h
theorem S_impl_natDiv_1_ok (x : Tys D_impl_natDiv_1.head.ks) : stepL E_impl_natDiv D_impl_natDiv_1 body_impl_natDiv_1 x = S_impl_natDiv_1 x := by kernel_rfl
theorem loops_impl_natDiv_1 : loopsIn body_impl_natDiv_1 = [body_impl_natDiv_2, body_impl_natDiv_3, body_impl_natDiv_4] := by kernel_rfl
theorem l_impl_natDiv_1 : LoopOk Try.prog (mkLM D_impl_natDiv_1 S_impl_natDiv_1_w) body_impl_natDiv_1 := loop_ok2 mix layD_ok cons_impl_natDiv (by kernel_rfl) (loops_mem loops_impl_natDiv_1 (⟨⟨_, by kernel_rfl, l_impl_natDiv_2⟩, ⟨⟨_, by kernel_rfl, l_impl_natDiv_3⟩, ⟨⟨_, by kernel_rfl, l_impl_natDiv_4⟩, trivial⟩⟩⟩)) S_impl_natDiv_1_ok fun _ _ h => h
theorem S_impl_natDiv_0_ok (x : Tys D_impl_natDiv_0.head.ks) : stepL E_impl_natDiv D_impl_natDiv_0 body_impl_natDiv_0 x = S_impl_natDiv_0 x := by kernel_rfl
theorem loops_impl_natDiv_0 : loopsIn body_impl_natDiv_0 = [] := by kernel_rfl
theorem l_impl_natDiv_0 : LoopOk Try.prog (mkLM D_impl_natDiv_0 S_impl_natDiv_0_w) body_impl_natDiv_0 := loop_ok2 mix layD_ok cons_impl_natDiv (by kernel_rfl) (loops_mem loops_impl_natDiv_0 (trivial)) S_impl_natDiv_0_ok fun _ _ h => h
theorem loops_impl_natDiv : loopsIn code_impl_natDiv = [body_impl_natDiv_0, body_impl_natDiv_1] := by kernel_rfl
theorem m_impl_natDiv : Meets Try.prog 159 c_impl_natDiv := meets_of (E := E_impl_natDiv) (code := code_impl_natDiv) mix layD_ok cons_impl_natDiv Try.func159 (by kernel_rfl) sg_impl_natDiv (by kernel_rfl) (fun y => (y.1, y.2.1)) c_impl_natDiv.out (fun _ => rfl) c_impl_natDiv.run (fun x => by kernel_rfl) (by kernel_rfl) (loops_mem loops_impl_natDiv (⟨⟨_, by kernel_rfl, l_impl_natDiv_0⟩, ⟨⟨_, by kernel_rfl, l_impl_natDiv_1⟩, trivial⟩⟩))

noncomputable def sg_impl_natGcd : Sig := ⟨[(false, [.d (.sl .int)]), (false, [.d (.sl .int)])], [], false, [(false, [.own 0])], [(0, .arr false .int)]⟩
noncomputable def c_impl_natGcd : Con := ⟨sg_impl_natGcd, List Int, fun x => M_impl_natGcd x.1 x.2.1, fun r => (r, ())⟩
noncomputable def code_impl_natGcd : Code := Try.f158.body.getD .skip
noncomputable def body_impl_natGcd_0 : Code := (loopsIn code_impl_natGcd).getD 0 .skip
noncomputable def body_impl_natGcd_1 : Code := (loopsIn code_impl_natGcd).getD 1 .skip
noncomputable def D_impl_natGcd_0 : LoopD := ⟨⟨mkSlots [(0, false, [.d (.sl .int)]), (1, false, [.d (.sl .int)])] 49 0, []⟩, [], [(.exit 0, ⟨mkSlots [(0, false, [.d (.sl .int)]), (1, false, [.d (.sl .int)])] 49 0, []⟩, [])]⟩
noncomputable def D_impl_natGcd_1 : LoopD := ⟨⟨mkSlots [(7, false, [.d (.int .i64)]), (8, false, [.d (.int .i64)])] 49 0, []⟩, [], [(.exit 2, ⟨mkSlots [(7, false, [.d (.int .i64)])] 49 0, []⟩, [])]⟩
noncomputable def S_impl_natGcd_0_w (x : Tys D_impl_natGcd_0.head.ks) : Option (OutT D_impl_natGcd_0.outs) := @whileO ((List Int) × (List Int) × Unit) ((List Int) × (List Int) × Unit) S_impl_natGcd_0 x
noncomputable def S_impl_natGcd_1_w (x : Tys D_impl_natGcd_1.head.ks) : Option (OutT D_impl_natGcd_1.outs) := @whileO (Int × Int × Unit) (Int × Unit) S_impl_natGcd_1 x
noncomputable def E_impl_natGcd : Env := ⟨layD, [(159, c_impl_natDiv), (121, c_impl_copyInts)], [(1, mkLM D_impl_natGcd_0 S_impl_natGcd_0_w), (7, mkLM D_impl_natGcd_1 S_impl_natGcd_1_w)], [(6, [(0, []), (1, []), (2, []), (3, []), (4, []), (5, []), (6, [2, 0, 1]), (7, [5, 6, 0, 1, 2, 3, 4])]), (8, [(0, []), (1, []), (2, []), (3, []), (4, [0, 1]), (5, [3, 4, 0, 1, 2])])]⟩
theorem cons_impl_natGcd : ConsOk Try.prog E_impl_natGcd.cons := consOk_cons m_impl_natDiv (callable_of Try.func159 (by kernel_rfl)) (consOk_cons m_impl_copyInts (callable_of Try.func121 (by kernel_rfl)) (consOk_nil))
theorem S_impl_natGcd_1_ok (x : Tys D_impl_natGcd_1.head.ks) : stepL E_impl_natGcd D_impl_natGcd_1 body_impl_natGcd_1 x = S_impl_natGcd_1 x := by kernel_rfl
theorem loops_impl_natGcd_1 : loopsIn body_impl_natGcd_1 = [] := by kernel_rfl
theorem l_impl_natGcd_1 : LoopOk Try.prog (mkLM D_impl_natGcd_1 S_impl_natGcd_1_w) body_impl_natGcd_1 := loop_ok2 mix layD_ok cons_impl_natGcd (by kernel_rfl) (loops_mem loops_impl_natGcd_1 (trivial)) S_impl_natGcd_1_ok fun _ _ h => h
theorem S_impl_natGcd_0_ok (x : Tys D_impl_natGcd_0.head.ks) : stepL E_impl_natGcd D_impl_natGcd_0 body_impl_natGcd_0 x = S_impl_natGcd_0 x := by kernel_rfl
theorem loops_impl_natGcd_0 : loopsIn body_impl_natGcd_0 = [] := by kernel_rfl
theorem l_impl_natGcd_0 : LoopOk Try.prog (mkLM D_impl_natGcd_0 S_impl_natGcd_0_w) body_impl_natGcd_0 := loop_ok2 mix layD_ok cons_impl_natGcd (by kernel_rfl) (loops_mem loops_impl_natGcd_0 (trivial)) S_impl_natGcd_0_ok fun _ _ h => h
theorem loops_impl_natGcd : loopsIn code_impl_natGcd = [body_impl_natGcd_0, body_impl_natGcd_1] := by kernel_rfl
theorem m_impl_natGcd : Meets Try.prog 158 c_impl_natGcd := meets_of (E := E_impl_natGcd) (code := code_impl_natGcd) mix layD_ok cons_impl_natGcd Try.func158 (by kernel_rfl) sg_impl_natGcd (by kernel_rfl) (fun y => y.1) c_impl_natGcd.out (fun _ => rfl) c_impl_natGcd.run (fun x => by kernel_rfl) (by kernel_rfl) (loops_mem loops_impl_natGcd (⟨⟨_, by kernel_rfl, l_impl_natGcd_0⟩, ⟨⟨_, by kernel_rfl, l_impl_natGcd_1⟩, trivial⟩⟩))

noncomputable def sg_impl_isOne : Sig := ⟨[(false, [.d (.sl .int)])], [], false, [(false, [.d (.bool)])], []⟩
noncomputable def c_impl_isOne : Con := ⟨sg_impl_isOne, Bool, fun x => M_impl_isOne x.1, fun r => (r, ())⟩
noncomputable def code_impl_isOne : Code := Try.f157.body.getD .skip
noncomputable def E_impl_isOne : Env := ⟨layD, [], [], []⟩
theorem cons_impl_isOne : ConsOk Try.prog E_impl_isOne.cons := consOk_nil
theorem loops_impl_isOne : loopsIn code_impl_isOne = [] := by kernel_rfl
theorem m_impl_isOne : Meets Try.prog 157 c_impl_isOne := meets_of (E := E_impl_isOne) (code := code_impl_isOne) mix layD_ok cons_impl_isOne Try.func157 (by kernel_rfl) sg_impl_isOne (by kernel_rfl) (fun y => y.1) c_impl_isOne.out (fun _ => rfl) c_impl_isOne.run (fun x => by kernel_rfl) (by kernel_rfl) (loops_mem loops_impl_isOne (trivial))

noncomputable def sg_impl_lowest : Sig := ⟨[(true, [.d (.bool), .d (.sl .int)]), (false, [.d (.sl .int)])], [], false, [(true, [.d (.bool), .d (.sl .int), .d (.sl .int)])], []⟩
noncomputable def c_impl_lowest : Con := ⟨sg_impl_lowest, Rt, fun x => M_impl_lowest (⟨x.1, x.2.1⟩ : Bg) x.2.2.1, fun r => (r.neg, r.mag, r.den, ())⟩
noncomputable def code_impl_lowest : Code := Try.f125.body.getD .skip
noncomputable def E_impl_lowest : Env := ⟨layD, [(158, c_impl_natGcd), (157, c_impl_isOne), (159, c_impl_natDiv), (160, c_impl_signed_dc)], [], []⟩
theorem cons_impl_lowest : ConsOk Try.prog E_impl_lowest.cons := consOk_cons m_impl_natGcd (callable_of Try.func158 (by kernel_rfl)) (consOk_cons m_impl_isOne (callable_of Try.func157 (by kernel_rfl)) (consOk_cons m_impl_natDiv (callable_of Try.func159 (by kernel_rfl)) (consOk_cons m_impl_signed_dc (callable_of Try.func160 (by kernel_rfl)) (consOk_nil))))
theorem loops_impl_lowest : loopsIn code_impl_lowest = [] := by kernel_rfl
theorem m_impl_lowest : Meets Try.prog 125 c_impl_lowest := meets_of (E := E_impl_lowest) (code := code_impl_lowest) mix layD_ok cons_impl_lowest Try.func125 (by kernel_rfl) sg_impl_lowest (by kernel_rfl) (fun y => (⟨y.1, y.2.1, y.2.2.1⟩ : Rt)) c_impl_lowest.out (fun _ => rfl) c_impl_lowest.run (fun x => by kernel_rfl) (by kernel_rfl) (loops_mem loops_impl_lowest (trivial))

noncomputable def sg_impl_copyRat : Sig := ⟨[(true, [.d (.bool), .d (.sl .int), .d (.sl .int)])], [], false, [(true, [.d (.bool), .own 0, .own 1])], [(0, .arr false .int), (1, .arr false .int)]⟩
noncomputable def c_impl_copyRat : Con := ⟨sg_impl_copyRat, Rt, fun x => M_impl_copyRat (⟨x.1, x.2.1, x.2.2.1⟩ : Rt), fun r => (r.neg, r.mag, r.den, ())⟩
noncomputable def code_impl_copyRat : Code := Try.f77.body.getD .skip
noncomputable def E_impl_copyRat : Env := ⟨layD, [(121, c_impl_copyInts)], [], [(1, [(0, []), (1, []), (2, []), (3, []), (4, []), (5, []), (8, []), (9, []), (6, [5, 4, 3]), (7, []), (10, [9, 6, 8, 5, 4, 3]), (11, []), (12, [11, 10, 0, 1, 2, 3, 4, 5, 6, 7, 8, 9])])]⟩
theorem cons_impl_copyRat : ConsOk Try.prog E_impl_copyRat.cons := consOk_cons m_impl_copyInts (callable_of Try.func121 (by kernel_rfl)) (consOk_nil)
theorem loops_impl_copyRat : loopsIn code_impl_copyRat = [] := by kernel_rfl
theorem m_impl_copyRat : Meets Try.prog 77 c_impl_copyRat := meets_of (E := E_impl_copyRat) (code := code_impl_copyRat) mix layD_ok cons_impl_copyRat Try.func77 (by kernel_rfl) sg_impl_copyRat (by kernel_rfl) (fun y => (⟨y.1, y.2.1, y.2.2.1⟩ : Rt)) c_impl_copyRat.out (fun _ => rfl) c_impl_copyRat.run (fun x => by kernel_rfl) (by kernel_rfl) (loops_mem loops_impl_copyRat (trivial))

noncomputable def sg_impl_RatMake : Sig := ⟨[(true, [.d (.bool), .d (.sl .int)]), (true, [.d (.bool), .d (.sl .int)])], [], false, [(true, [.d (.bool), .own 0, .own 1])], [(0, .arr false .int), (1, .arr false .int)]⟩
noncomputable def c_impl_RatMake : Con := ⟨sg_impl_RatMake, Rt, fun x => M_impl_RatMake (⟨x.1, x.2.1⟩ : Bg) (⟨x.2.2.1, x.2.2.2.1⟩ : Bg), fun r => (r.neg, r.mag, r.den, ())⟩
noncomputable def code_impl_RatMake : Code := Try.f176.body.getD .skip
noncomputable def E_impl_RatMake : Env := ⟨layD, [(155, c_impl_BigIntOk), (160, c_impl_signed), (125, c_impl_lowest), (77, c_impl_copyRat)], [], [(3, [(0, []), (1, []), (2, []), (3, []), (4, []), (5, []), (6, []), (8, []), (9, []), (7, [4, 6, 1, 3, 5, 0, 2]), (10, [7, 9, 4, 6, 8, 1, 3, 5, 0, 2]), (11, [10, 7, 9, 4, 6, 8, 1, 3, 5, 0, 2]), (12, [11, 0, 1, 2, 3, 4, 5, 6, 7, 8, 9, 10])])]⟩
theorem cons_impl_RatMake : ConsOk Try.prog E_impl_RatMake.cons := consOk_cons m_impl_BigIntOk (callable_of Try.func155 (by kernel_rfl)) (consOk_cons m_impl_signed (callable_of Try.func160 (by kernel_rfl)) (consOk_cons m_impl_lowest (callable_of Try.func125 (by kernel_rfl)) (consOk_cons m_impl_copyRat (callable_of Try.func77 (by kernel_rfl)) (consOk_nil))))
theorem loops_impl_RatMake : loopsIn code_impl_RatMake = [] := by kernel_rfl
theorem m_impl_RatMake : Meets Try.prog 176 c_impl_RatMake := meets_of (E := E_impl_RatMake) (code := code_impl_RatMake) mix layD_ok cons_impl_RatMake Try.func176 (by kernel_rfl) sg_impl_RatMake (by kernel_rfl) (fun y => (⟨y.1, y.2.1, y.2.2.1⟩ : Rt)) c_impl_RatMake.out (fun _ => rfl) c_impl_RatMake.run (fun x => by kernel_rfl) (by kernel_rfl) (loops_mem loops_impl_RatMake (trivial))

noncomputable def sg_impl_RatOf : Sig := ⟨[(false, [.d (.int .i64)]), (false, [.d (.int .i64)])], [], false, [(true, [.d (.bool), .own 0, .own 1])], [(0, .arr false .int), (1, .arr false .int)]⟩
noncomputable def c_impl_RatOf : Con := ⟨sg_impl_RatOf, Rt, fun x => M_impl_RatOf x.1 x.2.1, fun r => (r.neg, r.mag, r.den, ())⟩
noncomputable def code_impl_RatOf : Code := Try.f154.body.getD .skip
noncomputable def E_impl_RatOf : Env := ⟨layD, [(177, c_impl_BigIntOf), (176, c_impl_RatMake)], [], []⟩
theorem cons_impl_RatOf : ConsOk Try.prog E_impl_RatOf.cons := consOk_cons m_impl_BigIntOf (callable_of Try.func177 (by kernel_rfl)) (consOk_cons m_impl_RatMake (callable_of Try.func176 (by kernel_rfl)) (consOk_nil))
theorem loops_impl_RatOf : loopsIn code_impl_RatOf = [] := by kernel_rfl
theorem m_impl_RatOf : Meets Try.prog 154 c_impl_RatOf := meets_of (E := E_impl_RatOf) (code := code_impl_RatOf) mix layD_ok cons_impl_RatOf Try.func154 (by kernel_rfl) sg_impl_RatOf (by kernel_rfl) (fun y => (⟨y.1, y.2.1, y.2.2.1⟩ : Rt)) c_impl_RatOf.out (fun _ => rfl) c_impl_RatOf.run (fun x => by kernel_rfl) (by kernel_rfl) (loops_mem loops_impl_RatOf (trivial))

noncomputable def sg_impl_RatFromInt : Sig := ⟨[(false, [.d (.int .i64)])], [], false, [(true, [.d (.bool), .own 0, .own 1])], [(0, .arr false .int), (1, .arr false .int)]⟩
noncomputable def c_impl_RatFromInt : Con := ⟨sg_impl_RatFromInt, Rt, fun x => M_impl_RatFromInt x.1, fun r => (r.neg, r.mag, r.den, ())⟩
noncomputable def code_impl_RatFromInt : Code := Try.f119.body.getD .skip
noncomputable def E_impl_RatFromInt : Env := ⟨layD, [(154, c_impl_RatOf)], [], []⟩
theorem cons_impl_RatFromInt : ConsOk Try.prog E_impl_RatFromInt.cons := consOk_cons m_impl_RatOf (callable_of Try.func154 (by kernel_rfl)) (consOk_nil)
theorem loops_impl_RatFromInt : loopsIn code_impl_RatFromInt = [] := by kernel_rfl
theorem m_impl_RatFromInt : Meets Try.prog 119 c_impl_RatFromInt := meets_of (E := E_impl_RatFromInt) (code := code_impl_RatFromInt) mix layD_ok cons_impl_RatFromInt Try.func119 (by kernel_rfl) sg_impl_RatFromInt (by kernel_rfl) (fun y => (⟨y.1, y.2.1, y.2.2.1⟩ : Rt)) c_impl_RatFromInt.out (fun _ => rfl) c_impl_RatFromInt.run (fun x => by kernel_rfl) (by kernel_rfl) (loops_mem loops_impl_RatFromInt (trivial))

noncomputable def sg_impl_whole : Sig := ⟨[(false, [.d (.int .i64)])], [], false, [(true, [.d (.bool), .own 0, .own 1])], [(0, .arr false .int), (1, .arr false .int)]⟩
noncomputable def c_impl_whole : Con := ⟨sg_impl_whole, Rt, fun x => M_impl_whole x.1, fun r => (r.neg, r.mag, r.den, ())⟩
noncomputable def code_impl_whole : Code := Try.f72.body.getD .skip
noncomputable def E_impl_whole : Env := ⟨layD, [(119, c_impl_RatFromInt)], [], []⟩
theorem cons_impl_whole : ConsOk Try.prog E_impl_whole.cons := consOk_cons m_impl_RatFromInt (callable_of Try.func119 (by kernel_rfl)) (consOk_nil)
theorem loops_impl_whole : loopsIn code_impl_whole = [] := by kernel_rfl
theorem m_impl_whole : Meets Try.prog 72 c_impl_whole := meets_of (E := E_impl_whole) (code := code_impl_whole) mix layD_ok cons_impl_whole Try.func72 (by kernel_rfl) sg_impl_whole (by kernel_rfl) (fun y => (⟨y.1, y.2.1, y.2.2.1⟩ : Rt)) c_impl_whole.out (fun _ => rfl) c_impl_whole.run (fun x => by kernel_rfl) (by kernel_rfl) (loops_mem loops_impl_whole (trivial))

noncomputable def sg_impl_MatrixOf : Sig := ⟨[(false, [.d (.int .i64)]), (false, [.d (.int .i64)]), (false, [.d (.sl .int)])], [], false, [(true, [.d (.int .i64), .d (.int .i64), .dp 0])], [(0, .deep .rat)]⟩
noncomputable def c_impl_MatrixOf : Con := ⟨sg_impl_MatrixOf, Mx, fun x => M_impl_MatrixOf x.1 x.2.1 x.2.2.1, fun r => (r.rows, r.cols, r.cells, ())⟩
noncomputable def code_impl_MatrixOf : Code := Try.f24.body.getD .skip
noncomputable def body_impl_MatrixOf_0 : Code := (loopsIn code_impl_MatrixOf).getD 0 .skip
noncomputable def D_impl_MatrixOf_0 : LoopD := ⟨⟨mkSlots [(6, false, [.lp 384 0]), (7, false, [.lp 448 0]), (30, false, [.d (.sl .int)]), (31, false, [.d (.int .i64)]), (32, false, [.d (.int .i64)])] 45 0, [(384, .box [.d (.int .i64), .d (.int .i64), .d (.sl .rat)]), (448, .box [.d (.int .i64), .d (.int .i64), .dp 2944]), (2944, .deep .rat)]⟩, [(.boxD 448 2, 2944, .rat)], [(.exit 0, ⟨mkSlots [(6, false, [.lp 384 0]), (7, false, [.lp 448 0])] 45 0, [(384, .box [.d (.int .i64), .d (.int .i64), .d (.sl .rat)]), (448, .box [.d (.int .i64), .d (.int .i64), .dp 2944]), (2944, .deep .rat)]⟩, [(.boxD 448 2, 2944, .rat)])]⟩
noncomputable def S_impl_MatrixOf_0_w (x : Tys D_impl_MatrixOf_0.head.ks) : Option (OutT D_impl_MatrixOf_0.outs) := @whileO ((List Int) × Int × Int × Int × Int × (List Rt) × Int × Int × (List Rt) × Unit) (Int × Int × (List Rt) × Int × Int × (List Rt) × Unit) S_impl_MatrixOf_0 x
noncomputable def E_impl_MatrixOf : Env := ⟨layD, [(71, c_impl_isLength), (72, c_impl_whole)], [(5, mkLM D_impl_MatrixOf_0 S_impl_MatrixOf_0_w)], [(7, [(0, []), (1, []), (2, []), (3, [2]), (4, [3, 2]), (5, [1, 4, 3, 0, 2]), (6, []), (7, [6, 5, 0, 1, 2, 3, 4])])]⟩
theorem cons_impl_MatrixOf : ConsOk Try.prog E_impl_MatrixOf.cons := consOk_cons m_impl_isLength (callable_of Try.func71 (by kernel_rfl)) (consOk_cons m_impl_whole (callable_of Try.func72 (by kernel_rfl)) (consOk_nil))
theorem S_impl_MatrixOf_0_ok (x : Tys D_impl_MatrixOf_0.head.ks) : stepL E_impl_MatrixOf D_impl_MatrixOf_0 body_impl_MatrixOf_0 x = S_impl_MatrixOf_0 x := by kernel_rfl
theorem loops_impl_MatrixOf_0 : loopsIn body_impl_MatrixOf_0 = [] := by kernel_rfl
theorem l_impl_MatrixOf_0 : LoopOk Try.prog (mkLM D_impl_MatrixOf_0 S_impl_MatrixOf_0_w) body_impl_MatrixOf_0 := loop_ok2 mix layD_ok cons_impl_MatrixOf (by kernel_rfl) (loops_mem loops_impl_MatrixOf_0 (trivial)) S_impl_MatrixOf_0_ok fun _ _ h => h
theorem loops_impl_MatrixOf : loopsIn code_impl_MatrixOf = [body_impl_MatrixOf_0] := by kernel_rfl
theorem m_impl_MatrixOf : Meets Try.prog 24 c_impl_MatrixOf := meets_of (E := E_impl_MatrixOf) (code := code_impl_MatrixOf) mix layD_ok cons_impl_MatrixOf Try.func24 (by kernel_rfl) sg_impl_MatrixOf (by kernel_rfl) (fun y => (⟨y.1, y.2.1, y.2.2.1⟩ : Mx)) c_impl_MatrixOf.out (fun _ => rfl) c_impl_MatrixOf.run (fun x => by kernel_rfl) (by kernel_rfl) (loops_mem loops_impl_MatrixOf (⟨⟨_, by kernel_rfl, l_impl_MatrixOf_0⟩, trivial⟩))

noncomputable def sg_laws_eqIntS : Sig := ⟨[(false, [.d (.sl .int)]), (false, [.d (.sl .int)])], [], false, [(false, [.d (.bool)])], []⟩
noncomputable def c_laws_eqIntS : Con := ⟨sg_laws_eqIntS, Bool, fun x => M_laws_eqIntS x.1 x.2.1, fun r => (r, ())⟩
noncomputable def code_laws_eqIntS : Code := Try.f19.body.getD .skip
noncomputable def body_laws_eqIntS_0 : Code := (loopsIn code_laws_eqIntS).getD 0 .skip
noncomputable def D_laws_eqIntS_0 : LoopD := ⟨⟨mkSlots [(0, false, [.d (.sl .int)]), (1, false, [.d (.sl .int)]), (5, false, [.d (.int .i64)])] 26 0, []⟩, [], [(.ret, ⟨mkSlots [(4, false, [.d (.bool)])] 26 0, []⟩, []), (.exit 0, ⟨mkSlots [] 26 0, []⟩, [])]⟩
noncomputable def S_laws_eqIntS_0_w (x : Tys D_laws_eqIntS_0.head.ks) : Option (OutT D_laws_eqIntS_0.outs) := @whileO ((List Int) × (List Int) × Int × Unit) ((Bool × Unit) ⊕ (Unit)) S_laws_eqIntS_0 x
noncomputable def E_laws_eqIntS : Env := ⟨layD, [], [(4, mkLM D_laws_eqIntS_0 S_laws_eqIntS_0_w)], [(6, [(0, []), (1, []), (2, []), (3, []), (4, []), (5, []), (6, []), (7, []), (8, [])])]⟩
theorem cons_laws_eqIntS : ConsOk Try.prog E_laws_eqIntS.cons := consOk_nil
theorem S_laws_eqIntS_0_ok (x : Tys D_laws_eqIntS_0.head.ks) : stepL E_laws_eqIntS D_laws_eqIntS_0 body_laws_eqIntS_0 x = S_laws_eqIntS_0 x := by kernel_rfl
theorem loops_laws_eqIntS_0 : loopsIn body_laws_eqIntS_0 = [] := by kernel_rfl
theorem l_laws_eqIntS_0 : LoopOk Try.prog (mkLM D_laws_eqIntS_0 S_laws_eqIntS_0_w) body_laws_eqIntS_0 := loop_ok2 mix layD_ok cons_laws_eqIntS (by kernel_rfl) (loops_mem loops_laws_eqIntS_0 (trivial)) S_laws_eqIntS_0_ok fun _ _ h => h
theorem loops_laws_eqIntS : loopsIn code_laws_eqIntS = [body_laws_eqIntS_0] := by kernel_rfl
theorem m_laws_eqIntS : Meets Try.prog 19 c_laws_eqIntS := meets_of (E := E_laws_eqIntS) (code := code_laws_eqIntS) mix layD_ok cons_laws_eqIntS Try.func19 (by kernel_rfl) sg_laws_eqIntS (by kernel_rfl) (fun y => y.1) c_laws_eqIntS.out (fun _ => rfl) c_laws_eqIntS.run (fun x => by kernel_rfl) (by kernel_rfl) (loops_mem loops_laws_eqIntS (⟨⟨_, by kernel_rfl, l_laws_eqIntS_0⟩, trivial⟩))

noncomputable def sg_laws_eqBigInt : Sig := ⟨[(true, [.d (.bool), .d (.sl .int)]), (true, [.d (.bool), .d (.sl .int)])], [], false, [(false, [.d (.bool)])], []⟩
noncomputable def c_laws_eqBigInt : Con := ⟨sg_laws_eqBigInt, Bool, fun x => M_laws_eqBigInt (⟨x.1, x.2.1⟩ : Bg) (⟨x.2.2.1, x.2.2.2.1⟩ : Bg), fun r => (r, ())⟩
noncomputable def code_laws_eqBigInt : Code := Try.f79.body.getD .skip
noncomputable def E_laws_eqBigInt : Env := ⟨layD, [(19, c_laws_eqIntS)], [], []⟩
theorem cons_laws_eqBigInt : ConsOk Try.prog E_laws_eqBigInt.cons := consOk_cons m_laws_eqIntS (callable_of Try.func19 (by kernel_rfl)) (consOk_nil)
theorem loops_laws_eqBigInt : loopsIn code_laws_eqBigInt = [] := by kernel_rfl
theorem m_laws_eqBigInt : Meets Try.prog 79 c_laws_eqBigInt := meets_of (E := E_laws_eqBigInt) (code := code_laws_eqBigInt) mix layD_ok cons_laws_eqBigInt Try.func79 (by kernel_rfl) sg_laws_eqBigInt (by kernel_rfl) (fun y => y.1) c_laws_eqBigInt.out (fun _ => rfl) c_laws_eqBigInt.run (fun x => by kernel_rfl) (by kernel_rfl) (loops_mem loops_laws_eqBigInt (trivial))

noncomputable def sg_laws_eqRat : Sig := ⟨[(true, [.d (.bool), .d (.sl .int), .d (.sl .int)]), (true, [.d (.bool), .d (.sl .int), .d (.sl .int)])], [], false, [(false, [.d (.bool)])], []⟩
noncomputable def c_laws_eqRat : Con := ⟨sg_laws_eqRat, Bool, fun x => M_laws_eqRat (⟨x.1, x.2.1, x.2.2.1⟩ : Rt) (⟨x.2.2.2.1, x.2.2.2.2.1, x.2.2.2.2.2.1⟩ : Rt), fun r => (r, ())⟩
noncomputable def code_laws_eqRat : Code := Try.f37.body.getD .skip
noncomputable def E_laws_eqRat : Env := ⟨layD, [(79, c_laws_eqBigInt), (19, c_laws_eqIntS)], [], []⟩
theorem cons_laws_eqRat : ConsOk Try.prog E_laws_eqRat.cons := consOk_cons m_laws_eqBigInt (callable_of Try.func79 (by kernel_rfl)) (consOk_cons m_laws_eqIntS (callable_of Try.func19 (by kernel_rfl)) (consOk_nil))
theorem loops_laws_eqRat : loopsIn code_laws_eqRat = [] := by kernel_rfl
theorem m_laws_eqRat : Meets Try.prog 37 c_laws_eqRat := meets_of (E := E_laws_eqRat) (code := code_laws_eqRat) mix layD_ok cons_laws_eqRat Try.func37 (by kernel_rfl) sg_laws_eqRat (by kernel_rfl) (fun y => y.1) c_laws_eqRat.out (fun _ => rfl) c_laws_eqRat.run (fun x => by kernel_rfl) (by kernel_rfl) (loops_mem loops_laws_eqRat (trivial))

noncomputable def sg_laws_eqRatS : Sig := ⟨[(false, [.d (.sl .rat)]), (false, [.d (.sl .rat)])], [], false, [(false, [.d (.bool)])], []⟩
noncomputable def c_laws_eqRatS : Con := ⟨sg_laws_eqRatS, Bool, fun x => M_laws_eqRatS x.1 x.2.1, fun r => (r, ())⟩
noncomputable def code_laws_eqRatS : Code := Try.f32.body.getD .skip
noncomputable def body_laws_eqRatS_0 : Code := (loopsIn code_laws_eqRatS).getD 0 .skip
noncomputable def D_laws_eqRatS_0 : LoopD := ⟨⟨mkSlots [(0, false, [.d (.sl .rat)]), (1, false, [.d (.sl .rat)]), (5, false, [.d (.int .i64)])] 27 0, []⟩, [], [(.ret, ⟨mkSlots [(4, false, [.d (.bool)])] 27 0, []⟩, []), (.exit 0, ⟨mkSlots [] 27 0, []⟩, [])]⟩
noncomputable def S_laws_eqRatS_0_w (x : Tys D_laws_eqRatS_0.head.ks) : Option (OutT D_laws_eqRatS_0.outs) := @whileO ((List Rt) × (List Rt) × Int × Unit) ((Bool × Unit) ⊕ (Unit)) S_laws_eqRatS_0 x
noncomputable def E_laws_eqRatS : Env := ⟨layD, [(37, c_laws_eqRat)], [(4, mkLM D_laws_eqRatS_0 S_laws_eqRatS_0_w)], [(6, [(0, []), (1, []), (2, []), (3, []), (4, []), (5, []), (6, []), (7, []), (8, [3, 7, 2, 6, 0, 1, 4, 5]), (9, [])])]⟩
theorem cons_laws_eqRatS : ConsOk Try.prog E_laws_eqRatS.cons := consOk_cons m_laws_eqRat (callable_of Try.func37 (by kernel_rfl)) (consOk_nil)
theorem S_laws_eqRatS_0_ok (x : Tys D_laws_eqRatS_0.head.ks) : stepL E_laws_eqRatS D_laws_eqRatS_0 body_laws_eqRatS_0 x = S_laws_eqRatS_0 x := by kernel_rfl
theorem loops_laws_eqRatS_0 : loopsIn body_laws_eqRatS_0 = [] := by kernel_rfl
theorem l_laws_eqRatS_0 : LoopOk Try.prog (mkLM D_laws_eqRatS_0 S_laws_eqRatS_0_w) body_laws_eqRatS_0 := loop_ok2 mix layD_ok cons_laws_eqRatS (by kernel_rfl) (loops_mem loops_laws_eqRatS_0 (trivial)) S_laws_eqRatS_0_ok fun _ _ h => h
theorem loops_laws_eqRatS : loopsIn code_laws_eqRatS = [body_laws_eqRatS_0] := by kernel_rfl
theorem m_laws_eqRatS : Meets Try.prog 32 c_laws_eqRatS := meets_of (E := E_laws_eqRatS) (code := code_laws_eqRatS) mix layD_ok cons_laws_eqRatS Try.func32 (by kernel_rfl) sg_laws_eqRatS (by kernel_rfl) (fun y => y.1) c_laws_eqRatS.out (fun _ => rfl) c_laws_eqRatS.run (fun x => by kernel_rfl) (by kernel_rfl) (loops_mem loops_laws_eqRatS (⟨⟨_, by kernel_rfl, l_laws_eqRatS_0⟩, trivial⟩))

noncomputable def sg_laws_eqMatrix : Sig := ⟨[(true, [.d (.int .i64), .d (.int .i64), .d (.sl .rat)]), (true, [.d (.int .i64), .d (.int .i64), .d (.sl .rat)])], [], false, [(false, [.d (.bool)])], []⟩
noncomputable def c_laws_eqMatrix : Con := ⟨sg_laws_eqMatrix, Bool, fun x => M_laws_eqMatrix (⟨x.1, x.2.1, x.2.2.1⟩ : Mx) (⟨x.2.2.2.1, x.2.2.2.2.1, x.2.2.2.2.2.1⟩ : Mx), fun r => (r, ())⟩
noncomputable def code_laws_eqMatrix : Code := Try.f25.body.getD .skip
noncomputable def E_laws_eqMatrix : Env := ⟨layD, [(32, c_laws_eqRatS)], [], []⟩
theorem cons_laws_eqMatrix : ConsOk Try.prog E_laws_eqMatrix.cons := consOk_cons m_laws_eqRatS (callable_of Try.func32 (by kernel_rfl)) (consOk_nil)
theorem loops_laws_eqMatrix : loopsIn code_laws_eqMatrix = [] := by kernel_rfl
theorem m_laws_eqMatrix : Meets Try.prog 25 c_laws_eqMatrix := meets_of (E := E_laws_eqMatrix) (code := code_laws_eqMatrix) mix layD_ok cons_laws_eqMatrix Try.func25 (by kernel_rfl) sg_laws_eqMatrix (by kernel_rfl) (fun y => y.1) c_laws_eqMatrix.out (fun _ => rfl) c_laws_eqMatrix.run (fun x => by kernel_rfl) (by kernel_rfl) (loops_mem loops_laws_eqMatrix (trivial))

noncomputable def sg_laws_markIntS_md : Sig := ⟨[(false, [.own 63]), (false, [.d (.int .i64)])], [(63, .arr false .int)], false, [(false, [.d (.int .i64)])], [(63, .arr false .int)]⟩
noncomputable def c_laws_markIntS_md : Con := ⟨sg_laws_markIntS_md, Int × List Int, fun x => M_laws_markIntS_md x.2.1 x.1, fun r => (r.1, r.2, ())⟩
noncomputable def code_laws_markIntS_md : Code := Try.f21.body.getD .skip
noncomputable def body_laws_markIntS_md_0 : Code := (loopsIn code_laws_markIntS_md).getD 0 .skip
noncomputable def D_laws_markIntS_md_0 : LoopD := ⟨⟨mkSlots [(0, false, [.own 63]), (1, false, [.d (.int .i64)]), (5, false, [.d (.int .i64)])] 19 0, [(63, .arr false .int)]⟩, [], [(.exit 0, ⟨mkSlots [(1, false, [.d (.int .i64)])] 19 0, [(63, .arr false .int)]⟩, [])]⟩
noncomputable def S_laws_markIntS_md_0_w (x : Tys D_laws_markIntS_md_0.head.ks) : Option (OutT D_laws_markIntS_md_0.outs) := @whileO (Int × Int × (List Int) × Unit) (Int × (List Int) × Unit) S_laws_markIntS_md_0 x
noncomputable def E_laws_markIntS_md : Env := ⟨layD, [], [(2, mkLM D_laws_markIntS_md_0 S_laws_markIntS_md_0_w)], []⟩
theorem cons_laws_markIntS_md : ConsOk Try.prog E_laws_markIntS_md.cons := consOk_nil
theorem S_laws_markIntS_md_0_ok (x : Tys D_laws_markIntS_md_0.head.ks) : stepL E_laws_markIntS_md D_laws_markIntS_md_0 body_laws_markIntS_md_0 x = S_laws_markIntS_md_0 x := by kernel_rfl
theorem loops_laws_markIntS_md_0 : loopsIn body_laws_markIntS_md_0 = [] := by kernel_rfl
theorem l_laws_markIntS_md_0 : LoopOk Try.prog (mkLM D_laws_markIntS_md_0 S_laws_markIntS_md_0_w) body_laws_markIntS_md_0 := loop_ok2 mix layD_ok cons_laws_markIntS_md (by kernel_rfl) (loops_mem loops_laws_markIntS_md_0 (trivial)) S_laws_markIntS_md_0_ok fun _ _ h => h
theorem loops_laws_markIntS_md : loopsIn code_laws_markIntS_md = [body_laws_markIntS_md_0] := by kernel_rfl
theorem m_laws_markIntS_md : Meets Try.prog 21 c_laws_markIntS_md := meets_of (E := E_laws_markIntS_md) (code := code_laws_markIntS_md) mix layD_ok cons_laws_markIntS_md Try.func21 (by kernel_rfl) sg_laws_markIntS_md (by kernel_rfl) (fun y => (y.1, y.2.1)) c_laws_markIntS_md.out (fun _ => rfl) c_laws_markIntS_md.run (fun x => by kernel_rfl) (by kernel_rfl) (loops_mem loops_laws_markIntS_md (⟨⟨_, by kernel_rfl, l_laws_markIntS_md_0⟩, trivial⟩))

noncomputable def sg_laws_markRatS_md : Sig := ⟨[(false, [.dp 63]), (false, [.d (.int .i64)])], [(63, .deep .rat)], false, [(false, [.d (.int .i64)])], [(63, .deep .rat)]⟩
noncomputable def c_laws_markRatS_md : Con := ⟨sg_laws_markRatS_md, Int × List Rt, fun x => M_laws_markRatS_md x.2.1 x.1, fun r => (r.1, r.2, ())⟩
noncomputable def code_laws_markRatS_md : Code := Try.f33.body.getD .skip
noncomputable def body_laws_markRatS_md_0 : Code := (loopsIn code_laws_markRatS_md).getD 0 .skip
noncomputable def D_laws_markRatS_md_0 : LoopD := ⟨⟨mkSlots [(0, false, [.dp 63]), (1, false, [.d (.int .i64)]), (5, false, [.d (.int .i64)])] 38 0, [(63, .deep .rat)]⟩, [], [(.exit 0, ⟨mkSlots [(1, false, [.d (.int .i64)])] 38 0, [(63, .deep .rat)]⟩, [])]⟩
noncomputable def S_laws_markRatS_md_0_w (x : Tys D_laws_markRatS_md_0.head.ks) : Option (OutT D_laws_markRatS_md_0.outs) := @whileO (Int × Int × (List Rt) × Unit) (Int × (List Rt) × Unit) S_laws_markRatS_md_0 x
noncomputable def E_laws_markRatS_md : Env := ⟨layD, [(21, c_laws_markIntS_md)], [(2, mkLM D_laws_markRatS_md_0 S_laws_markRatS_md_0_w)], []⟩
theorem cons_laws_markRatS_md : ConsOk Try.prog E_laws_markRatS_md.cons := consOk_cons m_laws_markIntS_md (callable_of Try.func21 (by kernel_rfl)) (consOk_nil)
theorem S_laws_markRatS_md_0_ok (x : Tys D_laws_markRatS_md_0.head.ks) : stepL E_laws_markRatS_md D_laws_markRatS_md_0 body_laws_markRatS_md_0 x = S_laws_markRatS_md_0 x := by kernel_rfl
theorem loops_laws_markRatS_md_0 : loopsIn body_laws_markRatS_md_0 = [] := by kernel_rfl
theorem l_laws_markRatS_md_0 : LoopOk Try.prog (mkLM D_laws_markRatS_md_0 S_laws_markRatS_md_0_w) body_laws_markRatS_md_0 := loop_ok2 mix layD_ok cons_laws_markRatS_md (by kernel_rfl) (loops_mem loops_laws_markRatS_md_0 (trivial)) S_laws_markRatS_md_0_ok fun _ _ h => h
theorem loops_laws_markRatS_md : loopsIn code_laws_markRatS_md = [body_laws_markRatS_md_0] := by kernel_rfl
theorem m_laws_markRatS_md : Meets Try.prog 33 c_laws_markRatS_md := meets_of (E := E_laws_markRatS_md) (code := code_laws_markRatS_md) mix layD_ok cons_laws_markRatS_md Try.func33 (by kernel_rfl) sg_laws_markRatS_md (by kernel_rfl) (fun y => (y.1, y.2.1)) c_laws_markRatS_md.out (fun _ => rfl) c_laws_markRatS_md.run (fun x => by kernel_rfl) (by kernel_rfl) (loops_mem loops_laws_markRatS_md (⟨⟨_, by kernel_rfl, l_laws_markRatS_md_0⟩, trivial⟩))

noncomputable def sg_laws_markMatrix_md : Sig := ⟨[(true, [.d (.int .i64), .d (.int .i64), .dp 191]), (false, [.d (.int .i64)])], [(191, .deep .rat)], false, [(false, [.d (.int .i64)])], [(191, .deep .rat)]⟩
noncomputable def c_laws_markMatrix_md : Con := ⟨sg_laws_markMatrix_md, Int × List Rt, fun x => M_laws_markMatrix_md (⟨x.1, x.2.1, x.2.2.2.1⟩ : Mx) x.2.2.1, fun r => (r.1, r.2, ())⟩
noncomputable def code_laws_markMatrix_md : Code := Try.f26.body.getD .skip
noncomputable def E_laws_markMatrix_md : Env := ⟨layD, [(33, c_laws_markRatS_md)], [], []⟩
theorem cons_laws_markMatrix_md : ConsOk Try.prog E_laws_markMatrix_md.cons := consOk_cons m_laws_markRatS_md (callable_of Try.func33 (by kernel_rfl)) (consOk_nil)
theorem loops_laws_markMatrix_md : loopsIn code_laws_markMatrix_md = [] := by kernel_rfl
theorem m_laws_markMatrix_md : Meets Try.prog 26 c_laws_markMatrix_md := meets_of (E := E_laws_markMatrix_md) (code := code_laws_markMatrix_md) mix layD_ok cons_laws_markMatrix_md Try.func26 (by kernel_rfl) sg_laws_markMatrix_md (by kernel_rfl) (fun y => (y.1, y.2.1)) c_laws_markMatrix_md.out (fun _ => rfl) c_laws_markMatrix_md.run (fun x => by kernel_rfl) (by kernel_rfl) (loops_mem loops_laws_markMatrix_md (trivial))

noncomputable def sg_laws_heldIntS : Sig := ⟨[(false, [.d (.sl .int)]), (false, [.d (.int .i64)])], [], false, [(false, [.d (.int .i64)])], []⟩
noncomputable def c_laws_heldIntS : Con := ⟨sg_laws_heldIntS, Int, fun x => M_laws_heldIntS x.1 x.2.1, fun r => (r, ())⟩
noncomputable def code_laws_heldIntS : Code := Try.f68.body.getD .skip
noncomputable def body_laws_heldIntS_0 : Code := (loopsIn code_laws_heldIntS).getD 0 .skip
noncomputable def D_laws_heldIntS_0 : LoopD := ⟨⟨mkSlots [(0, false, [.d (.sl .int)]), (1, false, [.d (.int .i64)]), (5, false, [.d (.int .i64)])] 21 0, []⟩, [], [(.ret, ⟨mkSlots [(4, false, [.d (.int .i64)])] 21 0, []⟩, []), (.exit 0, ⟨mkSlots [(1, false, [.d (.int .i64)])] 21 0, []⟩, [])]⟩
noncomputable def S_laws_heldIntS_0_w (x : Tys D_laws_heldIntS_0.head.ks) : Option (OutT D_laws_heldIntS_0.outs) := @whileO ((List Int) × Int × Int × Unit) ((Int × Unit) ⊕ (Int × Unit)) S_laws_heldIntS_0 x
noncomputable def E_laws_heldIntS : Env := ⟨layD, [], [(2, mkLM D_laws_heldIntS_0 S_laws_heldIntS_0_w)], []⟩
theorem cons_laws_heldIntS : ConsOk Try.prog E_laws_heldIntS.cons := consOk_nil
theorem S_laws_heldIntS_0_ok (x : Tys D_laws_heldIntS_0.head.ks) : stepL E_laws_heldIntS D_laws_heldIntS_0 body_laws_heldIntS_0 x = S_laws_heldIntS_0 x := by kernel_rfl
theorem loops_laws_heldIntS_0 : loopsIn body_laws_heldIntS_0 = [] := by kernel_rfl
theorem l_laws_heldIntS_0 : LoopOk Try.prog (mkLM D_laws_heldIntS_0 S_laws_heldIntS_0_w) body_laws_heldIntS_0 := loop_ok2 mix layD_ok cons_laws_heldIntS (by kernel_rfl) (loops_mem loops_laws_heldIntS_0 (trivial)) S_laws_heldIntS_0_ok fun _ _ h => h
theorem loops_laws_heldIntS : loopsIn code_laws_heldIntS = [body_laws_heldIntS_0] := by kernel_rfl
theorem m_laws_heldIntS : Meets Try.prog 68 c_laws_heldIntS := meets_of (E := E_laws_heldIntS) (code := code_laws_heldIntS) mix layD_ok cons_laws_heldIntS Try.func68 (by kernel_rfl) sg_laws_heldIntS (by kernel_rfl) (fun y => y.1) c_laws_heldIntS.out (fun _ => rfl) c_laws_heldIntS.run (fun x => by kernel_rfl) (by kernel_rfl) (loops_mem loops_laws_heldIntS (⟨⟨_, by kernel_rfl, l_laws_heldIntS_0⟩, trivial⟩))

noncomputable def sg_laws_heldRatS : Sig := ⟨[(false, [.d (.sl .rat)]), (false, [.d (.int .i64)])], [], false, [(false, [.d (.int .i64)])], []⟩
noncomputable def c_laws_heldRatS : Con := ⟨sg_laws_heldRatS, Int, fun x => M_laws_heldRatS x.1 x.2.1, fun r => (r, ())⟩
noncomputable def code_laws_heldRatS : Code := Try.f34.body.getD .skip
noncomputable def body_laws_heldRatS_0 : Code := (loopsIn code_laws_heldRatS).getD 0 .skip
noncomputable def D_laws_heldRatS_0 : LoopD := ⟨⟨mkSlots [(0, false, [.d (.sl .rat)]), (1, false, [.d (.int .i64)]), (5, false, [.d (.int .i64)])] 44 0, []⟩, [], [(.ret, ⟨mkSlots [(4, false, [.d (.int .i64)])] 44 0, []⟩, []), (.exit 0, ⟨mkSlots [(1, false, [.d (.int .i64)])] 44 0, []⟩, [])]⟩
noncomputable def S_laws_heldRatS_0_w (x : Tys D_laws_heldRatS_0.head.ks) : Option (OutT D_laws_heldRatS_0.outs) := @whileO ((List Rt) × Int × Int × Unit) ((Int × Unit) ⊕ (Int × Unit)) S_laws_heldRatS_0 x
noncomputable def E_laws_heldRatS : Env := ⟨layD, [(68, c_laws_heldIntS)], [(2, mkLM D_laws_heldRatS_0 S_laws_heldRatS_0_w)], []⟩
theorem cons_laws_heldRatS : ConsOk Try.prog E_laws_heldRatS.cons := consOk_cons m_laws_heldIntS (callable_of Try.func68 (by kernel_rfl)) (consOk_nil)
theorem S_laws_heldRatS_0_ok (x : Tys D_laws_heldRatS_0.head.ks) : stepL E_laws_heldRatS D_laws_heldRatS_0 body_laws_heldRatS_0 x = S_laws_heldRatS_0 x := by kernel_rfl
theorem loops_laws_heldRatS_0 : loopsIn body_laws_heldRatS_0 = [] := by kernel_rfl
theorem l_laws_heldRatS_0 : LoopOk Try.prog (mkLM D_laws_heldRatS_0 S_laws_heldRatS_0_w) body_laws_heldRatS_0 := loop_ok2 mix layD_ok cons_laws_heldRatS (by kernel_rfl) (loops_mem loops_laws_heldRatS_0 (trivial)) S_laws_heldRatS_0_ok fun _ _ h => h
theorem loops_laws_heldRatS : loopsIn code_laws_heldRatS = [body_laws_heldRatS_0] := by kernel_rfl
theorem m_laws_heldRatS : Meets Try.prog 34 c_laws_heldRatS := meets_of (E := E_laws_heldRatS) (code := code_laws_heldRatS) mix layD_ok cons_laws_heldRatS Try.func34 (by kernel_rfl) sg_laws_heldRatS (by kernel_rfl) (fun y => y.1) c_laws_heldRatS.out (fun _ => rfl) c_laws_heldRatS.run (fun x => by kernel_rfl) (by kernel_rfl) (loops_mem loops_laws_heldRatS (⟨⟨_, by kernel_rfl, l_laws_heldRatS_0⟩, trivial⟩))

noncomputable def sg_laws_heldMatrix : Sig := ⟨[(true, [.d (.int .i64), .d (.int .i64), .d (.sl .rat)]), (false, [.d (.int .i64)])], [], false, [(false, [.d (.int .i64)])], []⟩
noncomputable def c_laws_heldMatrix : Con := ⟨sg_laws_heldMatrix, Int, fun x => M_laws_heldMatrix (⟨x.1, x.2.1, x.2.2.1⟩ : Mx) x.2.2.2.1, fun r => (r, ())⟩
noncomputable def code_laws_heldMatrix : Code := Try.f27.body.getD .skip
noncomputable def E_laws_heldMatrix : Env := ⟨layD, [(34, c_laws_heldRatS)], [], []⟩
theorem cons_laws_heldMatrix : ConsOk Try.prog E_laws_heldMatrix.cons := consOk_cons m_laws_heldRatS (callable_of Try.func34 (by kernel_rfl)) (consOk_nil)
theorem loops_laws_heldMatrix : loopsIn code_laws_heldMatrix = [] := by kernel_rfl
theorem m_laws_heldMatrix : Meets Try.prog 27 c_laws_heldMatrix := meets_of (E := E_laws_heldMatrix) (code := code_laws_heldMatrix) mix layD_ok cons_laws_heldMatrix Try.func27 (by kernel_rfl) sg_laws_heldMatrix (by kernel_rfl) (fun y => y.1) c_laws_heldMatrix.out (fun _ => rfl) c_laws_heldMatrix.run (fun x => by kernel_rfl) (by kernel_rfl) (loops_mem loops_laws_heldMatrix (trivial))

noncomputable def sg_laws_FnExactMatrixOf : Sig := ⟨[(false, [.d (.int .i64)]), (false, [.d (.int .i64)]), (false, [.d (.sl .int)])], [], false, [(false, [.d (.bool)])], []⟩
noncomputable def c_laws_FnExactMatrixOf : Con := ⟨sg_laws_FnExactMatrixOf, Bool, fun x => M_laws_FnExactMatrixOf x.1 x.2.1 x.2.2.1, fun r => (r, ())⟩
noncomputable def code_laws_FnExactMatrixOf : Code := Try.f4.body.getD .skip
noncomputable def E_laws_FnExactMatrixOf : Env := ⟨layD, [(16, c_laws_toIntS), (23, c_spec_MatrixOf), (24, c_impl_MatrixOf), (25, c_laws_eqMatrix), (19, c_laws_eqIntS), (21, c_laws_markIntS_md), (26, c_laws_markMatrix_md), (27, c_laws_heldMatrix)], [], []⟩
theorem cons_laws_FnExactMatrixOf : ConsOk Try.prog E_laws_FnExactMatrixOf.cons := consOk_cons m_laws_toIntS (callable_of Try.func16 (by kernel_rfl)) (consOk_cons m_spec_MatrixOf (callable_of Try.func23 (by kernel_rfl)) (consOk_cons m_impl_MatrixOf (callable_of Try.func24 (by kernel_rfl)) (consOk_cons m_laws_eqMatrix (callable_of Try.func25 (by kernel_rfl)) (consOk_cons m_laws_eqIntS (callable_of Try.func19 (by kernel_rfl)) (consOk_cons m_laws_markIntS_md (callable_of Try.func21 (by kernel_rfl)) (consOk_cons m_laws_markMatrix_md (callable_of Try.func26 (by kernel_rfl)) (consOk_cons m_laws_heldMatrix (callable_of Try.func27 (by kernel_rfl)) (consOk_nil))))))))
theorem loops_laws_FnExactMatrixOf : loopsIn code_laws_FnExactMatrixOf = [] := by kernel_rfl
theorem m_laws_FnExactMatrixOf : Meets Try.prog 4 c_laws_FnExactMatrixOf := meets_of (E := E_laws_FnExactMatrixOf) (code := code_laws_FnExactMatrixOf) mix layD_ok cons_laws_FnExactMatrixOf Try.func4 (by kernel_rfl) sg_laws_FnExactMatrixOf (by kernel_rfl) (fun y => y.1) c_laws_FnExactMatrixOf.out (fun _ => rfl) c_laws_FnExactMatrixOf.run (fun x => by kernel_rfl) (by kernel_rfl) (loops_mem loops_laws_FnExactMatrixOf (trivial))
end Go.Proofs.Ytkjfphfbpocijaa.WMatrixOf
