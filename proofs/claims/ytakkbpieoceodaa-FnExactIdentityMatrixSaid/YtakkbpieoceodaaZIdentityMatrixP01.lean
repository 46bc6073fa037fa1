/-
  Own work: part 7 of the texts that the proof of the given statement leans on.
-/
import Derived.Test.YtakkbpieoceodaaProg
import Derived.Test.YtakkbpieoceodaaZIdentityMatrixP00
open Go Go.Di Go.Proofs
namespace Go.Proofs.Ytakkbpieoceodaa.WIdentityMatrix
noncomputable def lay : List (TypeId × TI) := [
  (3, ⟨false, [.d (.int .i64 0)], [], none, some (.int .i64), false, false⟩),
  (4, ⟨false, [.d (.bool false)], [], none, some .bool, false, false⟩),
  (22, ⟨false, [.mt], [], some .rat, none, false, false⟩),
  (24, ⟨true, [.d (.int .i64 0), .d (.int .i64 0), .mt], [(0, 1, false), (1, 1, false), (2, 1, false)], none, none, true, false⟩),
  (37, ⟨false, [.mt], [], some .int, none, false, false⟩),
  (50, ⟨true, [.d (.bool false), .mt], [(0, 1, false), (1, 1, false)], none, none, true, false⟩),
  (52, ⟨true, [.d (.bool false), .mt, .mt], [(0, 2, true), (2, 1, false)], none, none, true, false⟩)]
noncomputable def layD : List (TypeId × TI) := [
  (3, ⟨false, [.d (.int .i64 0)], [], none, some (.int .i64), false, false⟩),
  (4, ⟨false, [.d (.bool false)], [], none, some .bool, false, false⟩),
  (22, ⟨false, [.mt], [], some .rat, none, false, true⟩),
  (24, ⟨true, [.d (.int .i64 0), .d (.int .i64 0), .mt], [(0, 1, false), (1, 1, false), (2, 1, false)], none, none, true, false⟩),
  (37, ⟨false, [.mt], [], some .int, none, false, false⟩),
  (50, ⟨true, [.d (.bool false), .mt], [(0, 1, false), (1, 1, false)], none, none, true, false⟩),
  (52, ⟨true, [.d (.bool false), .mt, .mt], [(0, 2, true), (2, 1, false)], none, none, true, false⟩)]
theorem lay_ok : LayOk Try.prog lay := layOk_ok (by kernel_rfl)
theorem layD_ok : LayOk Try.prog layD := layOk_ok (by kernel_rfl)
theorem mix : Try.prog.follows .mixedOrders = true := by kernel_rfl
noncomputable def sg_q1 : Sig := ⟨[(false, [.d (.int .i64)]), (false, [.d (.int .i64)]), (false, [.d (.int .i64)])], [], false, [(false, [.d (.bool)])], []⟩
noncomputable def c_q1 : Con := ⟨sg_q1, Bool, fun x => M_spec_l01In x.1 x.2.1 x.2.2.1, fun r => (r, ())⟩
noncomputable def code_q1 : Code := Try.f32.body.getD .skip
noncomputable def E_q1 : Env := ⟨layD, [], [], []⟩
theorem cons_q1 : ConsOk Try.prog E_q1.cons := consOk_nil
theorem loops_q1 : loopsIn code_q1 = [] := by kernel_rfl
theorem m_q1 : Meets Try.prog 32 c_q1 := meets_of (E := E_q1) (code := code_q1) mix layD_ok cons_q1 Try.func32 (by kernel_rfl) sg_q1 (by kernel_rfl) (fun y => y.1) c_q1.out (fun _ => rfl) c_q1.run (fun x => by kernel_rfl) (by kernel_rfl) (loops_mem loops_q1 (trivial))
noncomputable def sg_q2 : Sig := ⟨[(false, [.d (.sl .int)])], [], false, [(false, [.d (.sl .int)])], []⟩
noncomputable def c_q2 : Con := ⟨sg_q2, List Int, fun x => M_spec_l02Trim x.1, fun r => (r, ())⟩
noncomputable def code_q2 : Code := Try.f120.body.getD .skip
noncomputable def body_q2_0 : Code := (loopsIn code_q2).getD 0 .skip
noncomputable def D_q2_0 : LoopD := ⟨⟨mkSlots [(0, false, [.d (.sl .int)]), (3, false, [.d (.int .i64)])] 21 0, []⟩, [], [(.exit 0, ⟨mkSlots [(0, false, [.d (.sl .int)]), (3, false, [.d (.int .i64)])] 21 0, []⟩, [])]⟩
noncomputable def S_q2_0_w (x : Tys D_q2_0.head.ks) : Option (OutT D_q2_0.outs) := @whileO ((List Int) × Int × Unit) ((List Int) × Int × Unit) S_spec_l02Trim_0 x
noncomputable def E_q2 : Env := ⟨layD, [], [(2, mkLM D_q2_0 S_q2_0_w)], []⟩
theorem cons_q2 : ConsOk Try.prog E_q2.cons := consOk_nil
theorem S_q2_0_ok (x : Tys D_q2_0.head.ks) : stepL E_q2 D_q2_0 body_q2_0 x = S_spec_l02Trim_0 x := by kernel_rfl
theorem loops_q2_0 : loopsIn body_q2_0 = [] := by kernel_rfl
theorem l_q2_0 : LoopOk Try.prog (mkLM D_q2_0 S_q2_0_w) body_q2_0 := loop_ok2 mix layD_ok cons_q2 (by kernel_rfl) (loops_mem loops_q2_0 (trivial)) S_q2_0_ok fun _ _ h => h
theorem loops_q2 : loopsIn code_q2 = [body_q2_0] := by kernel_rfl
theorem m_q2 : Meets Try.prog 120 c_q2 := meets_of (E := E_q2) (code := code_q2) mix layD_ok cons_q2 Try.func120 (by kernel_rfl) sg_q2 (by kernel_rfl) (fun y => y.1) c_q2.out (fun _ => rfl) c_q2.run (fun x => by kernel_rfl) (by kernel_rfl) (loops_mem loops_q2 (⟨⟨_, by kernel_rfl, l_q2_0⟩, trivial⟩))
noncomputable def sg_q3 : Sig := ⟨[(false, [.d (.sl .int)])], [], false, [(false, [.d (.sl .int)])], []⟩
noncomputable def c_q3 : Con := ⟨sg_q3, List Int, fun x => M_spec_l02Cap x.1, fun r => (r, ())⟩
noncomputable def code_q3 : Code := Try.f122.body.getD .skip
noncomputable def E_q3 : Env := ⟨layD, [(120, c_q2)], [], []⟩
theorem cons_q3 : ConsOk Try.prog E_q3.cons := consOk_cons m_q2 (callable_of Try.func120 (by kernel_rfl)) (consOk_nil)
theorem loops_q3 : loopsIn code_q3 = [] := by kernel_rfl
theorem m_q3 : Meets Try.prog 122 c_q3 := meets_of (E := E_q3) (code := code_q3) mix layD_ok cons_q3 Try.func122 (by kernel_rfl) sg_q3 (by kernel_rfl) (fun y => y.1) c_q3.out (fun _ => rfl) c_q3.run (fun x => by kernel_rfl) (by kernel_rfl) (loops_mem loops_q3 (trivial))
noncomputable def sg_q4 : Sig := ⟨[(false, [.d (.bool)]), (false, [.d (.sl .int)])], [], false, [(true, [.d (.bool), .own 0])], [(0, .arr false .int)]⟩
noncomputable def c_q4 : Con := ⟨sg_q4, Bg, fun x => M_spec_l03Make x.1 x.2.1, fun r => (r.neg, r.mag, ())⟩
noncomputable def code_q4 : Code := Try.f82.body.getD .skip
noncomputable def E_q4 : Env := ⟨layD, [(122, c_q3)], [], []⟩
theorem cons_q4 : ConsOk Try.prog E_q4.cons := consOk_cons m_q3 (callable_of Try.func122 (by kernel_rfl)) (consOk_nil)
theorem loops_q4 : loopsIn code_q4 = [] := by kernel_rfl
theorem m_q4 : Meets Try.prog 82 c_q4 := meets_of (E := E_q4) (code := code_q4) mix layD_ok cons_q4 Try.func82 (by kernel_rfl) sg_q4 (by kernel_rfl) (fun y => (⟨y.1, y.2.1⟩ : Bg)) c_q4.out (fun _ => rfl) c_q4.run (fun x => by kernel_rfl) (by kernel_rfl) (loops_mem loops_q4 (trivial))
noncomputable def sg_q5 : Sig := ⟨[(false, [.d (.int .i64)])], [], false, [(false, [.own 0])], [(0, .arr false .int)]⟩
noncomputable def c_q5 : Con := ⟨sg_q5, List Int, fun x => M_spec_NatOf x.1, fun r => (r, ())⟩
noncomputable def code_q5 : Code := Try.f141.body.getD .skip
noncomputable def body_q5_0 : Code := (loopsIn code_q5).getD 0 .skip
noncomputable def D_q5_0 : LoopD := ⟨⟨mkSlots [(0, false, [.d (.int .i64)]), (3, false, [.own 1024])] 15 0, [(1024, .arr false .int)]⟩, [(.slot 3 0, 1024, .int)], [(.exit 0, ⟨mkSlots [(3, false, [.own 1024])] 15 0, [(1024, .arr false .int)]⟩, [(.slot 3 0, 1024, .int)])]⟩
noncomputable def S_q5_0_w (x : Tys D_q5_0.head.ks) : Option (OutT D_q5_0.outs) := @whileO (Int × (List Int) × Unit) ((List Int) × Unit) S_spec_NatOf_0 x
noncomputable def E_q5 : Env := ⟨layD, [], [(2, mkLM D_q5_0 S_q5_0_w)], []⟩
theorem cons_q5 : ConsOk Try.prog E_q5.cons := consOk_nil
theorem S_q5_0_ok (x : Tys D_q5_0.head.ks) : stepL E_q5 D_q5_0 body_q5_0 x = S_spec_NatOf_0 x := by kernel_rfl
theorem loops_q5_0 : loopsIn body_q5_0 = [] := by kernel_rfl
theorem l_q5_0 : LoopOk Try.prog (mkLM D_q5_0 S_q5_0_w) body_q5_0 := loop_ok2 mix layD_ok cons_q5 (by kernel_rfl) (loops_mem loops_q5_0 (trivial)) S_q5_0_ok fun _ _ h => h
theorem loops_q5 : loopsIn code_q5 = [body_q5_0] := by kernel_rfl
theorem m_q5 : Meets Try.prog 141 c_q5 := meets_of (E := E_q5) (code := code_q5) mix layD_ok cons_q5 Try.func141 (by kernel_rfl) sg_q5 (by kernel_rfl) (fun y => y.1) c_q5.out (fun _ => rfl) c_q5.run (fun x => by kernel_rfl) (by kernel_rfl) (loops_mem loops_q5 (⟨⟨_, by kernel_rfl, l_q5_0⟩, trivial⟩))
noncomputable def sg_q6 : Sig := ⟨[(false, [.d (.int .i64)])], [], false, [(true, [.d (.bool), .own 0])], [(0, .arr false .int)]⟩
noncomputable def c_q6 : Con := ⟨sg_q6, Bg, fun x => M_spec_BigIntOf x.1, fun r => (r.neg, r.mag, ())⟩
noncomputable def code_q6 : Code := Try.f102.body.getD .skip
noncomputable def E_q6 : Env := ⟨layD, [(82, c_q4), (141, c_q5)], [], []⟩
theorem cons_q6 : ConsOk Try.prog E_q6.cons := consOk_cons m_q4 (callable_of Try.func82 (by kernel_rfl)) (consOk_cons m_q5 (callable_of Try.func141 (by kernel_rfl)) (consOk_nil))
theorem loops_q6 : loopsIn code_q6 = [] := by kernel_rfl
theorem m_q6 : Meets Try.prog 102 c_q6 := meets_of (E := E_q6) (code := code_q6) mix layD_ok cons_q6 Try.func102 (by kernel_rfl) sg_q6 (by kernel_rfl) (fun y => (⟨y.1, y.2.1⟩ : Bg)) c_q6.out (fun _ => rfl) c_q6.run (fun x => by kernel_rfl) (by kernel_rfl) (loops_mem loops_q6 (trivial))
noncomputable def sg_q7 : Sig := ⟨[(false, [.d (.int .i64)])], [], false, [(true, [.d (.bool), .own 0, .own 1])], [(0, .arr false .int), (1, .arr false .int)]⟩
noncomputable def c_q7 : Con := ⟨sg_q7, Rt, fun x => M_spec_RatFromInt x.1, fun r => (r.neg, r.mag, r.den, ())⟩
noncomputable def code_q7 : Code := Try.f64.body.getD .skip
noncomputable def E_q7 : Env := ⟨layD, [(102, c_q6)], [], []⟩
theorem cons_q7 : ConsOk Try.prog E_q7.cons := consOk_cons m_q6 (callable_of Try.func102 (by kernel_rfl)) (consOk_nil)
theorem loops_q7 : loopsIn code_q7 = [] := by kernel_rfl
theorem m_q7 : Meets Try.prog 64 c_q7 := meets_of (E := E_q7) (code := code_q7) mix layD_ok cons_q7 Try.func64 (by kernel_rfl) sg_q7 (by kernel_rfl) (fun y => (⟨y.1, y.2.1, y.2.2.1⟩ : Rt)) c_q7.out (fun _ => rfl) c_q7.run (fun x => by kernel_rfl) (by kernel_rfl) (loops_mem loops_q7 (trivial))
noncomputable def sg_q8 : Sig := ⟨[], [], false, [(true, [.d (.bool), .own 0, .own 1])], [(0, .arr false .int), (1, .arr false .int)]⟩
noncomputable def c_q8 : Con := ⟨sg_q8, Rt, fun x => M_spec_l05Zero, fun r => (r.neg, r.mag, r.den, ())⟩
noncomputable def code_q8 : Code := Try.f130.body.getD .skip
noncomputable def E_q8 : Env := ⟨layD, [(64, c_q7)], [], []⟩
theorem cons_q8 : ConsOk Try.prog E_q8.cons := consOk_cons m_q7 (callable_of Try.func64 (by kernel_rfl)) (consOk_nil)
theorem loops_q8 : loopsIn code_q8 = [] := by kernel_rfl
theorem m_q8 : Meets Try.prog 130 c_q8 := meets_of (E := E_q8) (code := code_q8) mix layD_ok cons_q8 Try.func130 (by kernel_rfl) sg_q8 (by kernel_rfl) (fun y => (⟨y.1, y.2.1, y.2.2.1⟩ : Rt)) c_q8.out (fun _ => rfl) c_q8.run (fun x => by kernel_rfl) (by kernel_rfl) (loops_mem loops_q8 (trivial))
noncomputable def sg_q9 : Sig := ⟨[(false, [.d (.int .i64)])], [], false, [(false, [.dp 0])], [(0, .deep .rat)]⟩
noncomputable def c_q9 : Con := ⟨sg_q9, List Rt, fun x => M_spec_l05Zeros x.1, fun r => (r, ())⟩
noncomputable def code_q9 : Code := Try.f101.body.getD .skip
noncomputable def body_q9_0 : Code := (loopsIn code_q9).getD 0 .skip
noncomputable def D_q9_0 : LoopD := ⟨⟨mkSlots [(0, false, [.d (.int .i64)]), (3, false, [.dp 960])] 14 0, [(960, .deep .rat)]⟩, [(.slotD 3 0, 960, .rat)], [(.exit 0, ⟨mkSlots [(3, false, [.dp 960])] 14 0, [(960, .deep .rat)]⟩, [(.slotD 3 0, 960, .rat)])]⟩
noncomputable def S_q9_0_w (x : Tys D_q9_0.head.ks) : Option (OutT D_q9_0.outs) := @whileO (Int × (List Rt) × Unit) ((List Rt) × Unit) S_spec_l05Zeros_0 x
noncomputable def E_q9 : Env := ⟨layD, [(130, c_q8)], [(2, mkLM D_q9_0 S_q9_0_w)], []⟩
theorem cons_q9 : ConsOk Try.prog E_q9.cons := consOk_cons m_q8 (callable_of Try.func130 (by kernel_rfl)) (consOk_nil)
theorem S_q9_0_ok (x : Tys D_q9_0.head.ks) : stepL E_q9 D_q9_0 body_q9_0 x = S_spec_l05Zeros_0 x := by kernel_rfl
theorem loops_q9_0 : loopsIn body_q9_0 = [] := by kernel_rfl
theorem l_q9_0 : LoopOk Try.prog (mkLM D_q9_0 S_q9_0_w) body_q9_0 := loop_ok2 mix layD_ok cons_q9 (by kernel_rfl) (loops_mem loops_q9_0 (trivial)) S_q9_0_ok fun _ _ h => h
theorem loops_q9 : loopsIn code_q9 = [body_q9_0] := by kernel_rfl
theorem m_q9 : Meets Try.prog 101 c_q9 := meets_of (E := E_q9) (code := code_q9) mix layD_ok cons_q9 Try.func101 (by kernel_rfl) sg_q9 (by kernel_rfl) (fun y => y.1) c_q9.out (fun _ => rfl) c_q9.run (fun x => by kernel_rfl) (by kernel_rfl) (loops_mem loops_q9 (⟨⟨_, by kernel_rfl, l_q9_0⟩, trivial⟩))
noncomputable def sg_q10 : Sig := ⟨[(false, [.d (.int .i64)]), (false, [.d (.int .i64)])], [], false, [(true, [.d (.int .i64), .d (.int .i64), .dp 0])], [(0, .deep .rat)]⟩
noncomputable def c_q10 : Con := ⟨sg_q10, Mx, fun x => M_spec_l06Zero x.1 x.2.1, fun r => (r.rows, r.cols, r.cells, ())⟩
noncomputable def code_q10 : Code := Try.f63.body.getD .skip
noncomputable def E_q10 : Env := ⟨layD, [(101, c_q9)], [], []⟩
theorem cons_q10 : ConsOk Try.prog E_q10.cons := consOk_cons m_q9 (callable_of Try.func101 (by kernel_rfl)) (consOk_nil)
theorem loops_q10 : loopsIn code_q10 = [] := by kernel_rfl
theorem m_q10 : Meets Try.prog 63 c_q10 := meets_of (E := E_q10) (code := code_q10) mix layD_ok cons_q10 Try.func63 (by kernel_rfl) sg_q10 (by kernel_rfl) (fun y => (⟨y.1, y.2.1, y.2.2.1⟩ : Mx)) c_q10.out (fun _ => rfl) c_q10.run (fun x => by kernel_rfl) (by kernel_rfl) (loops_mem loops_q10 (trivial))
noncomputable def sg_q11 : Sig := ⟨[(false, [.d (.int .i64)])], [], false, [(true, [.d (.int .i64), .d (.int .i64), .dp 0])], [(0, .deep .rat)]⟩
noncomputable def c_q11 : Con := ⟨sg_q11, Mx, fun x => M_spec_l06Identity x.1, fun r => (r.rows, r.cols, r.cells, ())⟩
noncomputable def code_q11 : Code := Try.f33.body.getD .skip
noncomputable def body_q11_0 : Code := (loopsIn code_q11).getD 0 .skip
noncomputable def D_q11_0 : LoopD := ⟨⟨mkSlots [(0, false, [.d (.int .i64)]), (2, false, [.lp 128 0]), (3, false, [.lp 192 0]), (4, false, [.d (.int .i64)])] 23 0, [(128, .box [.d (.int .i64), .d (.int .i64), .d (.sl .rat)]), (192, .box [.d (.int .i64), .d (.int .i64), .dp 1536]), (1536, .deep .rat)]⟩, [], [(.exit 0, ⟨mkSlots [(2, false, [.lp 128 0]), (3, false, [.lp 192 0])] 23 0, [(128, .box [.d (.int .i64), .d (.int .i64), .d (.sl .rat)]), (192, .box [.d (.int .i64), .d (.int .i64), .dp 1536]), (1536, .deep .rat)]⟩, [])]⟩
noncomputable def S_q11_0_w (x : Tys D_q11_0.head.ks) : Option (OutT D_q11_0.outs) := @whileO (Int × Int × Int × Int × (List Rt) × Int × Int × (List Rt) × Unit) (Int × Int × (List Rt) × Int × Int × (List Rt) × Unit) S_spec_l06Identity_0 x
noncomputable def E_q11 : Env := ⟨layD, [(63, c_q10), (64, c_q7)], [(3, mkLM D_q11_0 S_q11_0_w)], [(5, [(0, []), (1, []), (2, []), (3, []), (4, []), (5, []), (6, []), (7, []), (8, []), (9, [8, 7, 0, 1, 2, 3, 4, 5, 6])])]⟩
theorem cons_q11 : ConsOk Try.prog E_q11.cons := consOk_cons m_q10 (callable_of Try.func63 (by kernel_rfl)) (consOk_cons m_q7 (callable_of Try.func64 (by kernel_rfl)) (consOk_nil))
theorem S_q11_0_ok (x : Tys D_q11_0.head.ks) : stepL E_q11 D_q11_0 body_q11_0 x = S_spec_l06Identity_0 x := by kernel_rfl
theorem loops_q11_0 : loopsIn body_q11_0 = [] := by kernel_rfl
theorem l_q11_0 : LoopOk Try.prog (mkLM D_q11_0 S_q11_0_w) body_q11_0 := loop_ok2 mix layD_ok cons_q11 (by kernel_rfl) (loops_mem loops_q11_0 (trivial)) S_q11_0_ok fun _ _ h => h
theorem loops_q11 : loopsIn code_q11 = [body_q11_0] := by kernel_rfl
theorem m_q11 : Meets Try.prog 33 c_q11 := meets_of (E := E_q11) (code := code_q11) mix layD_ok cons_q11 Try.func33 (by kernel_rfl) sg_q11 (by kernel_rfl) (fun y => (⟨y.1, y.2.1, y.2.2.1⟩ : Mx)) c_q11.out (fun _ => rfl) c_q11.run (fun x => by kernel_rfl) (by kernel_rfl) (loops_mem loops_q11 (⟨⟨_, by kernel_rfl, l_q11_0⟩, trivial⟩))
noncomputable def sg_q12 : Sig := ⟨[(false, [.d (.int .i64)])], [], false, [(true, [.d (.int .i64), .d (.int .i64), .dp 0])], [(0, .deep .rat)]⟩
noncomputable def c_q12 : Con := ⟨sg_q12, Mx, fun x => M_spec_IdentityMatrix x.1, fun r => (r.rows, r.cols, r.cells, ())⟩
noncomputable def code_q12 : Code := Try.f10.body.getD .skip
noncomputable def E_q12 : Env := ⟨layD, [(32, c_q1), (33, c_q11)], [], []⟩
theorem cons_q12 : ConsOk Try.prog E_q12.cons := consOk_cons m_q1 (callable_of Try.func32 (by kernel_rfl)) (consOk_cons m_q11 (callable_of Try.func33 (by kernel_rfl)) (consOk_nil))
theorem loops_q12 : loopsIn code_q12 = [] := by kernel_rfl
theorem m_q12 : Meets Try.prog 10 c_q12 := meets_of (E := E_q12) (code := code_q12) mix layD_ok cons_q12 Try.func10 (by kernel_rfl) sg_q12 (by kernel_rfl) (fun y => (⟨y.1, y.2.1, y.2.2.1⟩ : Mx)) c_q12.out (fun _ => rfl) c_q12.run (fun x => by kernel_rfl) (by kernel_rfl) (loops_mem loops_q12 (trivial))
noncomputable def sg_q13 : Sig := ⟨[(false, [.d (.int .i64)])], [], false, [(false, [.d (.bool)])], []⟩
noncomputable def c_q13 : Con := ⟨sg_q13, Bool, fun x => M_impl_isLength x.1, fun r => (r, ())⟩
noncomputable def code_q13 : Code := Try.f34.body.getD .skip
noncomputable def E_q13 : Env := ⟨layD, [], [], []⟩
theorem cons_q13 : ConsOk Try.prog E_q13.cons := consOk_nil
theorem loops_q13 : loopsIn code_q13 = [] := by kernel_rfl
theorem m_q13 : Meets Try.prog 34 c_q13 := meets_of (E := E_q13) (code := code_q13) mix layD_ok cons_q13 Try.func34 (by kernel_rfl) sg_q13 (by kernel_rfl) (fun y => y.1) c_q13.out (fun _ => rfl) c_q13.run (fun x => by kernel_rfl) (by kernel_rfl) (loops_mem loops_q13 (trivial))
noncomputable def sg_q14 : Sig := ⟨[(false, [.d (.int .i64)])], [], false, [(false, [.own 0])], [(0, .arr false .int)]⟩
noncomputable def c_q14 : Con := ⟨sg_q14, List Int, fun x => M_impl_NatOf x.1, fun r => (r, ())⟩
noncomputable def code_q14 : Code := Try.f152.body.getD .skip
noncomputable def body_q14_0 : Code := (loopsIn code_q14).getD 0 .skip
noncomputable def D_q14_0 : LoopD := ⟨⟨mkSlots [(0, false, [.d (.int .i64)]), (3, false, [.own 960])] 14 0, [(960, .arr false .int)]⟩, [(.slot 3 0, 960, .int)], [(.exit 0, ⟨mkSlots [(3, false, [.own 960])] 14 0, [(960, .arr false .int)]⟩, [(.slot 3 0, 960, .int)])]⟩
noncomputable def S_q14_0_w (x : Tys D_q14_0.head.ks) : Option (OutT D_q14_0.outs) := @whileO (Int × (List Int) × Unit) ((List Int) × Unit) S_impl_NatOf_0 x
noncomputable def E_q14 : Env := ⟨layD, [], [(2, mkLM D_q14_0 S_q14_0_w)], []⟩
theorem cons_q14 : ConsOk Try.prog E_q14.cons := consOk_nil
theorem S_q14_0_ok (x : Tys D_q14_0.head.ks) : stepL E_q14 D_q14_0 body_q14_0 x = S_impl_NatOf_0 x := by kernel_rfl
theorem loops_q14_0 : loopsIn body_q14_0 = [] := by kernel_rfl
theorem l_q14_0 : LoopOk Try.prog (mkLM D_q14_0 S_q14_0_w) body_q14_0 := loop_ok2 mix layD_ok cons_q14 (by kernel_rfl) (loops_mem loops_q14_0 (trivial)) S_q14_0_ok fun _ _ h => h
theorem loops_q14 : loopsIn code_q14 = [body_q14_0] := by kernel_rfl
theorem m_q14 : Meets Try.prog 152 c_q14 := meets_of (E := E_q14) (code := code_q14) mix layD_ok cons_q14 Try.func152 (by kernel_rfl) sg_q14 (by kernel_rfl) (fun y => y.1) c_q14.out (fun _ => rfl) c_q14.run (fun x => by kernel_rfl) (by kernel_rfl) (loops_mem loops_q14 (⟨⟨_, by kernel_rfl, l_q14_0⟩, trivial⟩))
noncomputable def sg_q15 : Sig := ⟨[(false, [.d (.bool)]), (false, [.own 64])], [(64, .arr false .int)], false, [(true, [.d (.bool), .own 0])], [(0, .arr false .int)]⟩
noncomputable def c_q15 : Con := ⟨sg_q15, Bg, fun x => M_impl_signed_dc x.1 x.2.1, fun r => (r.neg, r.mag, ())⟩
noncomputable def code_q15 : Code := Try.f125.body.getD .skip
noncomputable def E_q15 : Env := ⟨layD, [], [], []⟩
theorem cons_q15 : ConsOk Try.prog E_q15.cons := consOk_nil
theorem loops_q15 : loopsIn code_q15 = [] := by kernel_rfl
theorem m_q15 : Meets Try.prog 125 c_q15 := meets_of (E := E_q15) (code := code_q15) mix layD_ok cons_q15 Try.func125 (by kernel_rfl) sg_q15 (by kernel_rfl) (fun y => (⟨y.1, y.2.1⟩ : Bg)) c_q15.out (fun _ => rfl) c_q15.run (fun x => by kernel_rfl) (by kernel_rfl) (loops_mem loops_q15 (trivial))
noncomputable def sg_q16 : Sig := ⟨[(false, [.d (.sl .int)]), (false, [.d (.sl .int)])], [], false, [(false, [.own 0])], [(0, .arr false .int)]⟩
noncomputable def c_q16 : Con := ⟨sg_q16, List Int, fun x => M_impl_natAdd x.1 x.2.1, fun r => (r, ())⟩
noncomputable def code_q16 : Code := Try.f126.body.getD .skip
noncomputable def body_q16_0 : Code := (loopsIn code_q16).getD 0 .skip
noncomputable def D_q16_0 : LoopD := ⟨⟨mkSlots [(0, false, [.d (.sl .int)]), (1, false, [.d (.sl .int)]), (5, false, [.own 3648]), (6, false, [.d (.int .i64)]), (21, false, [.d (.int .i64)]), (22, false, [.d (.int .i64)])] 56 0, [(3648, .arr false .int)]⟩, [], [(.exit 0, ⟨mkSlots [(5, false, [.own 3648]), (6, false, [.d (.int .i64)])] 56 0, [(3648, .arr false .int)]⟩, [])]⟩
noncomputable def S_q16_0_w (x : Tys D_q16_0.head.ks) : Option (OutT D_q16_0.outs) := @whileO ((List Int) × (List Int) × Int × Int × Int × (List Int) × Unit) (Int × (List Int) × Unit) S_impl_natAdd_0 x
noncomputable def E_q16 : Env := ⟨layD, [], [(6, mkLM D_q16_0 S_q16_0_w)], []⟩
theorem cons_q16 : ConsOk Try.prog E_q16.cons := consOk_nil
theorem S_q16_0_ok (x : Tys D_q16_0.head.ks) : stepL E_q16 D_q16_0 body_q16_0 x = S_impl_natAdd_0 x := by kernel_rfl
theorem loops_q16_0 : loopsIn body_q16_0 = [] := by kernel_rfl
theorem l_q16_0 : LoopOk Try.prog (mkLM D_q16_0 S_q16_0_w) body_q16_0 := loop_ok2 mix layD_ok cons_q16 (by kernel_rfl) (loops_mem loops_q16_0 (trivial)) S_q16_0_ok fun _ _ h => h
theorem loops_q16 : loopsIn code_q16 = [body_q16_0] := by kernel_rfl
theorem m_q16 : Meets Try.prog 126 c_q16 := meets_of (E := E_q16) (code := code_q16) mix layD_ok cons_q16 Try.func126 (by kernel_rfl) sg_q16 (by kernel_rfl) (fun y => y.1) c_q16.out (fun _ => rfl) c_q16.run (fun x => by kernel_rfl) (by kernel_rfl) (loops_mem loops_q16 (⟨⟨_, by kernel_rfl, l_q16_0⟩, trivial⟩))
noncomputable def sg_q17 : Sig := ⟨[(false, [.d (.int .i64)])], [], false, [(true, [.d (.bool), .own 0])], [(0, .arr false .int)]⟩
noncomputable def c_q17 : Con := ⟨sg_q17, Bg, fun x => M_impl_BigIntOf x.1, fun r => (r.neg, r.mag, ())⟩
noncomputable def code_q17 : Code := Try.f143.body.getD .skip
noncomputable def E_q17 : Env := ⟨layD, [(152, c_q14), (125, c_q15), (126, c_q16)], [], []⟩
theorem cons_q17 : ConsOk Try.prog E_q17.cons := consOk_cons m_q14 (callable_of Try.func152 (by kernel_rfl)) (consOk_cons m_q15 (callable_of Try.func125 (by kernel_rfl)) (consOk_cons m_q16 (callable_of Try.func126 (by kernel_rfl)) (consOk_nil)))
theorem loops_q17 : loopsIn code_q17 = [] := by kernel_rfl
theorem m_q17 : Meets Try.prog 143 c_q17 := meets_of (E := E_q17) (code := code_q17) mix layD_ok cons_q17 Try.func143 (by kernel_rfl) sg_q17 (by kernel_rfl) (fun y => (⟨y.1, y.2.1⟩ : Bg)) c_q17.out (fun _ => rfl) c_q17.run (fun x => by kernel_rfl) (by kernel_rfl) (loops_mem loops_q17 (trivial))
noncomputable def sg_q18 : Sig := ⟨[(false, [.d (.sl .int)])], [], false, [(false, [.d (.bool)])], []⟩
noncomputable def c_q18 : Con := ⟨sg_q18, Bool, fun x => M_impl_NatOk x.1, fun r => (r, ())⟩
noncomputable def code_q18 : Code := Try.f113.body.getD .skip
noncomputable def body_q18_0 : Code := (loopsIn code_q18).getD 0 .skip
noncomputable def D_q18_0 : LoopD := ⟨⟨mkSlots [(22, false, [.d (.sl .int)]), (23, false, [.d (.int .i64)]), (24, false, [.d (.int .i64)])] 35 0, []⟩, [], [(.ret, ⟨mkSlots [(2, false, [.d (.bool)])] 35 0, []⟩, []), (.exit 0, ⟨mkSlots [] 35 0, []⟩, [])]⟩
noncomputable def S_q18_0_w (x : Tys D_q18_0.head.ks) : Option (OutT D_q18_0.outs) := @whileO ((List Int) × Int × Int × Unit) ((Bool × Unit) ⊕ (Unit)) S_impl_NatOk_0 x
noncomputable def E_q18 : Env := ⟨layD, [], [(4, mkLM D_q18_0 S_q18_0_w)], []⟩
theorem cons_q18 : ConsOk Try.prog E_q18.cons := consOk_nil
theorem S_q18_0_ok (x : Tys D_q18_0.head.ks) : stepL E_q18 D_q18_0 body_q18_0 x = S_impl_NatOk_0 x := by kernel_rfl
theorem loops_q18_0 : loopsIn body_q18_0 = [] := by kernel_rfl
theorem l_q18_0 : LoopOk Try.prog (mkLM D_q18_0 S_q18_0_w) body_q18_0 := loop_ok2 mix layD_ok cons_q18 (by kernel_rfl) (loops_mem loops_q18_0 (trivial)) S_q18_0_ok fun _ _ h => h
theorem loops_q18 : loopsIn code_q18 = [body_q18_0] := by kernel_rfl
theorem m_q18 : Meets Try.prog 113 c_q18 := meets_of (E := E_q18) (code := code_q18) mix layD_ok cons_q18 Try.func113 (by kernel_rfl) sg_q18 (by kernel_rfl) (fun y => y.1) c_q18.out (fun _ => rfl) c_q18.run (fun x => by kernel_rfl) (by kernel_rfl) (loops_mem loops_q18 (⟨⟨_, by kernel_rfl, l_q18_0⟩, trivial⟩))
noncomputable def sg_q19 : Sig := ⟨[(true, [.d (.bool), .d (.sl .int)])], [], false, [(false, [.d (.bool)])], []⟩
noncomputable def c_q19 : Con := ⟨sg_q19, Bool, fun x => M_impl_BigIntOk (⟨x.1, x.2.1⟩ : Bg), fun r => (r, ())⟩
noncomputable def code_q19 : Code := Try.f112.body.getD .skip
noncomputable def E_q19 : Env := ⟨layD, [(113, c_q18)], [], []⟩
theorem cons_q19 : ConsOk Try.prog E_q19.cons := consOk_cons m_q18 (callable_of Try.func113 (by kernel_rfl)) (consOk_nil)
theorem loops_q19 : loopsIn code_q19 = [] := by kernel_rfl
theorem m_q19 : Meets Try.prog 112 c_q19 := meets_of (E := E_q19) (code := code_q19) mix layD_ok cons_q19 Try.func112 (by kernel_rfl) sg_q19 (by kernel_rfl) (fun y => y.1) c_q19.out (fun _ => rfl) c_q19.run (fun x => by kernel_rfl) (by kernel_rfl) (loops_mem loops_q19 (trivial))
noncomputable def sg_q20 : Sig := ⟨[(false, [.d (.bool)]), (false, [.d (.sl .int)])], [], false, [(true, [.d (.bool), .d (.sl .int)])], []⟩
noncomputable def c_q20 : Con := ⟨sg_q20, Bg, fun x => M_impl_signed x.1 x.2.1, fun r => (r.neg, r.mag, ())⟩
noncomputable def code_q20 : Code := Try.f125.body.getD .skip
noncomputable def E_q20 : Env := ⟨layD, [], [], []⟩
theorem cons_q20 : ConsOk Try.prog E_q20.cons := consOk_nil
theorem loops_q20 : loopsIn code_q20 = [] := by kernel_rfl
theorem m_q20 : Meets Try.prog 125 c_q20 := meets_of (E := E_q20) (code := code_q20) mix layD_ok cons_q20 Try.func125 (by kernel_rfl) sg_q20 (by kernel_rfl) (fun y => (⟨y.1, y.2.1⟩ : Bg)) c_q20.out (fun _ => rfl) c_q20.run (fun x => by kernel_rfl) (by kernel_rfl) (loops_mem loops_q20 (trivial))
noncomputable def sg_q21 : Sig := ⟨[(false, [.d (.sl .int)]), (false, [.d (.sl .int)])], [], false, [(false, [.d (.int .i64)])], []⟩
noncomputable def c_q21 : Con := ⟨sg_q21, Int, fun x => M_impl_natCmp x.1 x.2.1, fun r => (r, ())⟩
noncomputable def code_q21 : Code := Try.f127.body.getD .skip
noncomputable def body_q21_0 : Code := (loopsIn code_q21).getD 0 .skip
noncomputable def D_q21_0 : LoopD := ⟨⟨mkSlots [(0, false, [.d (.sl .int)]), (1, false, [.d (.sl .int)]), (5, false, [.d (.int .i64)])] 43 0, []⟩, [], [(.ret, ⟨mkSlots [(4, false, [.d (.int .i64)])] 43 0, []⟩, []), (.exit 0, ⟨mkSlots [] 43 0, []⟩, [])]⟩
noncomputable def S_q21_0_w (x : Tys D_q21_0.head.ks) : Option (OutT D_q21_0.outs) := @whileO ((List Int) × (List Int) × Int × Unit) ((Int × Unit) ⊕ (Unit)) S_impl_natCmp_0 x
noncomputable def E_q21 : Env := ⟨layD, [], [(6, mkLM D_q21_0 S_q21_0_w)], [(8, [(0, []), (1, []), (2, []), (3, []), (4, []), (5, []), (6, []), (7, []), (8, []), (9, [8, 3, 7, 2, 6, 0, 1, 4, 5])]), (10, [(0, []), (1, []), (2, []), (3, []), (4, []), (5, []), (6, []), (7, []), (8, []), (9, [8, 3, 7, 2, 6, 0, 1, 4, 5])])]⟩
theorem cons_q21 : ConsOk Try.prog E_q21.cons := consOk_nil
theorem S_q21_0_ok (x : Tys D_q21_0.head.ks) : stepL E_q21 D_q21_0 body_q21_0 x = S_impl_natCmp_0 x := by kernel_rfl
theorem loops_q21_0 : loopsIn body_q21_0 = [] := by kernel_rfl
theorem l_q21_0 : LoopOk Try.prog (mkLM D_q21_0 S_q21_0_w) body_q21_0 := loop_ok2 mix layD_ok cons_q21 (by kernel_rfl) (loops_mem loops_q21_0 (trivial)) S_q21_0_ok fun _ _ h => h
theorem loops_q21 : loopsIn code_q21 = [body_q21_0] := by kernel_rfl
theorem m_q21 : Meets Try.prog 127 c_q21 := meets_of (E := E_q21) (code := code_q21) mix layD_ok cons_q21 Try.func127 (by kernel_rfl) sg_q21 (by kernel_rfl) (fun y => y.1) c_q21.out (fun _ => rfl) c_q21.run (fun x => by kernel_rfl) (by kernel_rfl) (loops_mem loops_q21 (⟨⟨_, by kernel_rfl, l_q21_0⟩, trivial⟩))
noncomputable def sg_q22 : Sig := ⟨[(false, [.d (.sl .int)])], [], false, [(false, [.own 0])], [(0, .arr false .int)]⟩
noncomputable def c_q22 : Con := ⟨sg_q22, List Int, fun x => M_impl_copyInts x.1, fun r => (r, ())⟩
noncomputable def code_q22 : Code := Try.f90.body.getD .skip
noncomputable def E_q22 : Env := ⟨layD, [], [], []⟩
theorem cons_q22 : ConsOk Try.prog E_q22.cons := consOk_nil
theorem loops_q22 : loopsIn code_q22 = [] := by kernel_rfl
theorem m_q22 : Meets Try.prog 90 c_q22 := meets_of (E := E_q22) (code := code_q22) mix layD_ok cons_q22 Try.func90 (by kernel_rfl) sg_q22 (by kernel_rfl) (fun y => y.1) c_q22.out (fun _ => rfl) c_q22.run (fun x => by kernel_rfl) (by kernel_rfl) (loops_mem loops_q22 (trivial))
noncomputable def sg_q23 : Sig := ⟨[(false, [.own 0])], [(0, .arr false .int)], false, [(false, [.own 0])], [(0, .arr false .int)]⟩
noncomputable def c_q23 : Con := ⟨sg_q23, List Int, fun x => M_impl_trim_c x.1, fun r => (r, ())⟩
noncomputable def code_q23 : Code := Try.f129.body.getD .skip
noncomputable def body_q23_0 : Code := (loopsIn code_q23).getD 0 .skip
noncomputable def D_q23_0 : LoopD := ⟨⟨mkSlots [(0, false, [.own 1408]), (3, false, [.d (.int .i64)])] 21 0, [(1408, .arr false .int)]⟩, [], [(.exit 0, ⟨mkSlots [(0, false, [.own 1408]), (3, false, [.d (.int .i64)])] 21 0, [(1408, .arr false .int)]⟩, [])]⟩
noncomputable def S_q23_0_w (x : Tys D_q23_0.head.ks) : Option (OutT D_q23_0.outs) := @whileO (Int × (List Int) × Unit) (Int × (List Int) × Unit) S_impl_trim_c_0 x
noncomputable def E_q23 : Env := ⟨layD, [], [(2, mkLM D_q23_0 S_q23_0_w)], []⟩
theorem cons_q23 : ConsOk Try.prog E_q23.cons := consOk_nil
theorem S_q23_0_ok (x : Tys D_q23_0.head.ks) : stepL E_q23 D_q23_0 body_q23_0 x = S_impl_trim_c_0 x := by kernel_rfl
theorem loops_q23_0 : loopsIn body_q23_0 = [] := by kernel_rfl
theorem l_q23_0 : LoopOk Try.prog (mkLM D_q23_0 S_q23_0_w) body_q23_0 := loop_ok2 mix layD_ok cons_q23 (by kernel_rfl) (loops_mem loops_q23_0 (trivial)) S_q23_0_ok fun _ _ h => h
theorem loops_q23 : loopsIn code_q23 = [body_q23_0] := by kernel_rfl
theorem m_q23 : Meets Try.prog 129 c_q23 := meets_of (E := E_q23) (code := code_q23) mix layD_ok cons_q23 Try.func129 (by kernel_rfl) sg_q23 (by kernel_rfl) (fun y => y.1) c_q23.out (fun _ => rfl) c_q23.run (fun x => by kernel_rfl) (by kernel_rfl) (loops_mem loops_q23 (⟨⟨_, by kernel_rfl, l_q23_0⟩, trivial⟩))
noncomputable def sg_q24 : Sig := ⟨[(false, [.d (.sl .int)]), (false, [.d (.int .i64)])], [], true, [(false, [.own 0]), (false, [.own 1])], [(0, .arr false .int), (1, .arr false .int)]⟩
noncomputable def c_q24 : Con := ⟨sg_q24, List Int × List Int, fun x => M_impl_divSmall x.1 x.2.1, fun r => (r.1, r.2, ())⟩
noncomputable def code_q24 : Code := Try.f149.body.getD .skip
noncomputable def body_q24_0 : Code := (loopsIn code_q24).getD 0 .skip
noncomputable def D_q24_0 : LoopD := ⟨⟨mkSlots [(0, false, [.d (.sl .int)]), (1, false, [.d (.int .i64)]), (6, false, [.own 2624]), (7, false, [.d (.int .i64)]), (8, false, [.d (.int .i64)])] 40 0, [(2624, .arr false .int)]⟩, [], [(.exit 0, ⟨mkSlots [(6, false, [.own 2624]), (7, false, [.d (.int .i64)])] 40 0, [(2624, .arr false .int)]⟩, [])]⟩
noncomputable def S_q24_0_w (x : Tys D_q24_0.head.ks) : Option (OutT D_q24_0.outs) := @whileO ((List Int) × Int × Int × Int × (List Int) × Unit) (Int × (List Int) × Unit) S_impl_divSmall_0 x
noncomputable def E_q24 : Env := ⟨layD, [(129, c_q23), (152, c_q14)], [(4, mkLM D_q24_0 S_q24_0_w)], []⟩
theorem cons_q24 : ConsOk Try.prog E_q24.cons := consOk_cons m_q23 (callable_of Try.func129 (by kernel_rfl)) (consOk_cons m_q14 (callable_of Try.func152 (by kernel_rfl)) (consOk_nil))
theorem S_q24_0_ok (x : Tys D_q24_0.head.ks) : stepL E_q24 D_q24_0 body_q24_0 x = S_impl_divSmall_0 x := by kernel_rfl
theorem loops_q24_0 : loopsIn body_q24_0 = [] := by kernel_rfl
theorem l_q24_0 : LoopOk Try.prog (mkLM D_q24_0 S_q24_0_w) body_q24_0 := loop_ok2 mix layD_ok cons_q24 (by kernel_rfl) (loops_mem loops_q24_0 (trivial)) S_q24_0_ok fun _ _ h => h
theorem loops_q24 : loopsIn code_q24 = [body_q24_0] := by kernel_rfl
theorem m_q24 : Meets Try.prog 149 c_q24 := meets_of (E := E_q24) (code := code_q24) mix layD_ok cons_q24 Try.func149 (by kernel_rfl) sg_q24 (by kernel_rfl) (fun y => (y.1, y.2.1)) c_q24.out (fun _ => rfl) c_q24.run (fun x => by kernel_rfl) (by kernel_rfl) (loops_mem loops_q24 (⟨⟨_, by kernel_rfl, l_q24_0⟩, trivial⟩))
noncomputable def sg_q25 : Sig := ⟨[(false, [.d (.sl .int)]), (false, [.d (.sl .int)])], [], false, [(false, [.own 0])], [(0, .arr false .int)]⟩
noncomputable def c_q25 : Con := ⟨sg_q25, List Int, fun x => M_impl_natMul x.1 x.2.1, fun r => (r, ())⟩
noncomputable def code_q25 : Code := Try.f92.body.getD .skip
noncomputable def body_q25_0 : Code := (loopsIn code_q25).getD 0 .skip
noncomputable def body_q25_1 : Code := (loopsIn body_q25_0).getD 0 .skip
noncomputable def D_q25_0 : LoopD := ⟨⟨mkSlots [(1, false, [.d (.sl .int)]), (5, false, [.own 4352]), (18, false, [.d (.sl .int)]), (19, false, [.d (.int .i64)]), (20, false, [.d (.int .i64)])] 67 0, [(4352, .arr false .int)]⟩, [], [(.exit 0, ⟨mkSlots [(5, false, [.own 4352])] 67 0, [(4352, .arr false .int)]⟩, [])]⟩
noncomputable def D_q25_1 : LoopD := ⟨⟨mkSlots [(1, false, [.d (.sl .int)]), (5, false, [.own 4352]), (6, false, [.d (.int .i64)]), (7, false, [.d (.int .i64)]), (8, false, [.d (.int .i64)]), (18, false, [.d (.sl .int)]), (19, false, [.d (.int .i64)]), (20, false, [.d (.int .i64)]), (25, false, [.d (.sl .int)]), (26, false, [.d (.int .i64)]), (27, false, [.d (.int .i64)])] 67 0, [(4352, .arr false .int)]⟩, [], [(.exit 2, ⟨mkSlots [(1, false, [.d (.sl .int)]), (5, false, [.own 4352]), (6, false, [.d (.int .i64)]), (8, false, [.d (.int .i64)]), (18, false, [.d (.sl .int)]), (19, false, [.d (.int .i64)]), (20, false, [.d (.int .i64)])] 67 0, [(4352, .arr false .int)]⟩, [])]⟩
noncomputable def S_q25_0_w (x : Tys D_q25_0.head.ks) : Option (OutT D_q25_0.outs) := @whileO ((List Int) × (List Int) × Int × Int × (List Int) × Unit) ((List Int) × Unit) S_impl_natMul_0 x
noncomputable def S_q25_1_w (x : Tys D_q25_1.head.ks) : Option (OutT D_q25_1.outs) := @whileO ((List Int) × Int × Int × Int × (List Int) × Int × Int × (List Int) × Int × Int × (List Int) × Unit) ((List Int) × Int × Int × (List Int) × Int × Int × (List Int) × Unit) S_impl_natMul_1 x
noncomputable def E_q25 : Env := ⟨layD, [(129, c_q23)], [(3, mkLM D_q25_0 S_q25_0_w), (7, mkLM D_q25_1 S_q25_1_w)], []⟩
theorem cons_q25 : ConsOk Try.prog E_q25.cons := consOk_cons m_q23 (callable_of Try.func129 (by kernel_rfl)) (consOk_nil)
theorem S_q25_1_ok (x : Tys D_q25_1.head.ks) : stepL E_q25 D_q25_1 body_q25_1 x = S_impl_natMul_1 x := by kernel_rfl
theorem loops_q25_1 : loopsIn body_q25_1 = [] := by kernel_rfl
theorem l_q25_1 : LoopOk Try.prog (mkLM D_q25_1 S_q25_1_w) body_q25_1 := loop_ok2 mix layD_ok cons_q25 (by kernel_rfl) (loops_mem loops_q25_1 (trivial)) S_q25_1_ok fun _ _ h => h
theorem S_q25_0_ok (x : Tys D_q25_0.head.ks) : stepL E_q25 D_q25_0 body_q25_0 x = S_impl_natMul_0 x := by kernel_rfl
theorem loops_q25_0 : loopsIn body_q25_0 = [body_q25_1] := by kernel_rfl
theorem l_q25_0 : LoopOk Try.prog (mkLM D_q25_0 S_q25_0_w) body_q25_0 := loop_ok2 mix layD_ok cons_q25 (by kernel_rfl) (loops_mem loops_q25_0 (⟨⟨_, by kernel_rfl, l_q25_1⟩, trivial⟩)) S_q25_0_ok fun _ _ h => h
theorem loops_q25 : loopsIn code_q25 = [body_q25_0] := by kernel_rfl
theorem m_q25 : Meets Try.prog 92 c_q25 := meets_of (E := E_q25) (code := code_q25) mix layD_ok cons_q25 Try.func92 (by kernel_rfl) sg_q25 (by kernel_rfl) (fun y => y.1) c_q25.out (fun _ => rfl) c_q25.run (fun x => by kernel_rfl) (by kernel_rfl) (loops_mem loops_q25 (⟨⟨_, by kernel_rfl, l_q25_0⟩, trivial⟩))
noncomputable def sg_q26 : Sig := ⟨[(false, [.d (.sl .int)]), (false, [.d (.sl .int)])], [], true, [(false, [.own 0]), (false, [.own 1])], [(0, .arr false .int), (1, .arr false .int)]⟩
noncomputable def c_q26 : Con := ⟨sg_q26, List Int × List Int, fun x => M_impl_natDiv x.1 x.2.1, fun r => (r.1, r.2, ())⟩
noncomputable def code_q26 : Code := Try.f124.body.getD .skip
noncomputable def body_q26_0 : Code := (loopsIn code_q26).getD 0 .skip
noncomputable def body_q26_1 : Code := (loopsIn code_q26).getD 1 .skip
noncomputable def body_q26_2 : Code := (loopsIn body_q26_1).getD 0 .skip
noncomputable def body_q26_3 : Code := (loopsIn body_q26_1).getD 1 .skip
noncomputable def body_q26_4 : Code := (loopsIn body_q26_1).getD 2 .skip
noncomputable def D_q26_0 : LoopD := ⟨⟨mkSlots [(0, false, [.d (.sl .int)]), (6, false, [.d (.int .i64)]), (7, false, [.own 15360]), (8, false, [.own 15424]), (9, false, [.d (.int .i64)])] 239 0, [(15360, .arr false .int), (15424, .arr false .int)]⟩, [], [(.exit 0, ⟨mkSlots [(6, false, [.d (.int .i64)]), (7, false, [.own 15360]), (8, false, [.own 15424]), (9, false, [.d (.int .i64)])] 239 0, [(15360, .arr false .int), (15424, .arr false .int)]⟩, [])]⟩
noncomputable def D_q26_1 : LoopD := ⟨⟨mkSlots [(6, false, [.d (.int .i64)]), (7, false, [.own 15360]), (8, false, [.own 15424]), (9, false, [.d (.int .i64)]), (10, false, [.own 15488]), (11, false, [.d (.int .i64)]), (12, false, [.d (.int .i64)])] 239 0, [(15360, .arr false .int), (15424, .arr false .int), (15488, .arr false .int)]⟩, [], [(.exit 2, ⟨mkSlots [(6, false, [.d (.int .i64)]), (7, false, [.own 15360]), (10, false, [.own 15488])] 239 0, [(15360, .arr false .int), (15488, .arr false .int)]⟩, [])]⟩
noncomputable def D_q26_2 : LoopD := ⟨⟨mkSlots [(6, false, [.d (.int .i64)]), (7, false, [.own 15360]), (8, false, [.own 15424]), (9, false, [.d (.int .i64)]), (10, false, [.own 15488]), (11, false, [.d (.int .i64)]), (12, false, [.d (.int .i64)]), (14, false, [.d (.int .i64)]), (15, false, [.d (.int .i64)])] 239 0, [(15360, .arr false .int), (15424, .arr false .int), (15488, .arr false .int)]⟩, [], [(.exit 4, ⟨mkSlots [(6, false, [.d (.int .i64)]), (7, false, [.own 15360]), (8, false, [.own 15424]), (9, false, [.d (.int .i64)]), (10, false, [.own 15488]), (11, false, [.d (.int .i64)]), (12, false, [.d (.int .i64)]), (14, false, [.d (.int .i64)])] 239 0, [(15360, .arr false .int), (15424, .arr false .int), (15488, .arr false .int)]⟩, [])]⟩
noncomputable def D_q26_3 : LoopD := ⟨⟨mkSlots [(6, false, [.d (.int .i64)]), (7, false, [.own 15360]), (8, false, [.own 15424]), (9, false, [.d (.int .i64)]), (10, false, [.own 15488]), (11, false, [.d (.int .i64)]), (12, false, [.d (.int .i64)]), (14, false, [.d (.int .i64)]), (16, false, [.d (.int .i64)]), (135, false, [.d (.int .i64)]), (136, false, [.d (.int .i64)])] 239 0, [(15360, .arr false .int), (15424, .arr false .int), (15488, .arr false .int)]⟩, [], [(.exit 6, ⟨mkSlots [(6, false, [.d (.int .i64)]), (7, false, [.own 15360]), (8, false, [.own 15424]), (9, false, [.d (.int .i64)]), (10, false, [.own 15488]), (11, false, [.d (.int .i64)]), (12, false, [.d (.int .i64)]), (14, false, [.d (.int .i64)]), (16, false, [.d (.int .i64)])] 239 0, [(15360, .arr false .int), (15424, .arr false .int), (15488, .arr false .int)]⟩, [])]⟩
noncomputable def D_q26_4 : LoopD := ⟨⟨mkSlots [(6, false, [.d (.int .i64)]), (7, false, [.own 15360]), (8, false, [.own 15424]), (9, false, [.d (.int .i64)]), (10, false, [.own 15488]), (11, false, [.d (.int .i64)]), (12, false, [.d (.int .i64)]), (14, false, [.d (.int .i64)]), (19, false, [.d (.int .i64)]), (188, false, [.d (.int .i64)]), (189, false, [.d (.int .i64)])] 239 0, [(15360, .arr false .int), (15424, .arr false .int), (15488, .arr false .int)]⟩, [], [(.exit 8, ⟨mkSlots [(6, false, [.d (.int .i64)]), (7, false, [.own 15360]), (8, false, [.own 15424]), (9, false, [.d (.int .i64)]), (10, false, [.own 15488]), (11, false, [.d (.int .i64)]), (12, false, [.d (.int .i64)]), (14, false, [.d (.int .i64)]), (19, false, [.d (.int .i64)])] 239 0, [(15360, .arr false .int), (15424, .arr false .int), (15488, .arr false .int)]⟩, [])]⟩
noncomputable def S_q26_0_w (x : Tys D_q26_0.head.ks) : Option (OutT D_q26_0.outs) := @whileO ((List Int) × Int × Int × (List Int) × (List Int) × Unit) (Int × Int × (List Int) × (List Int) × Unit) S_impl_natDiv_0 x
noncomputable def S_q26_1_w (x : Tys D_q26_1.head.ks) : Option (OutT D_q26_1.outs) := @whileO (Int × Int × Int × Int × (List Int) × (List Int) × (List Int) × Unit) (Int × (List Int) × (List Int) × Unit) S_impl_natDiv_1 x
noncomputable def S_q26_2_w (x : Tys D_q26_2.head.ks) : Option (OutT D_q26_2.outs) := @whileO (Int × Int × Int × Int × Int × Int × (List Int) × (List Int) × (List Int) × Unit) (Int × Int × Int × Int × Int × (List Int) × (List Int) × (List Int) × Unit) S_impl_natDiv_2 x
noncomputable def S_q26_3_w (x : Tys D_q26_3.head.ks) : Option (OutT D_q26_3.outs) := @whileO (Int × Int × Int × Int × Int × Int × Int × Int × (List Int) × (List Int) × (List Int) × Unit) (Int × Int × Int × Int × Int × Int × (List Int) × (List Int) × (List Int) × Unit) S_impl_natDiv_3 x
noncomputable def S_q26_4_w (x : Tys D_q26_4.head.ks) : Option (OutT D_q26_4.outs) := @whileO (Int × Int × Int × Int × Int × Int × Int × Int × (List Int) × (List Int) × (List Int) × Unit) (Int × Int × Int × Int × Int × Int × (List Int) × (List Int) × (List Int) × Unit) S_impl_natDiv_4 x
noncomputable def E_q26 : Env := ⟨layD, [(127, c_q21), (90, c_q22), (149, c_q24), (92, c_q25), (129, c_q23)], [(9, mkLM D_q26_0 S_q26_0_w), (14, mkLM D_q26_1 S_q26_1_w), (18, mkLM D_q26_2 S_q26_2_w), (24, mkLM D_q26_3 S_q26_3_w), (38, mkLM D_q26_4 S_q26_4_w)], [(16, [(0, []), (1, []), (2, []), (3, []), (4, []), (5, []), (6, []), (7, []), (8, []), (9, []), (10, []), (11, []), (12, []), (13, []), (14, []), (15, [14, 0, 1, 2, 3, 4, 5, 6, 7, 8, 9, 10, 11, 12, 13])]), (17, [(0, []), (1, []), (2, []), (3, []), (4, []), (5, []), (6, [2, 0, 1]), (7, [5, 6, 0, 1, 2, 3, 4])]), (18, [(0, []), (1, []), (2, []), (3, []), (4, []), (5, []), (6, []), (7, []), (8, []), (9, []), (10, []), (11, []), (12, []), (13, []), (14, []), (15, []), (16, []), (17, []), (18, []), (19, []), (20, []), (21, [])]), (26, [(0, []), (1, []), (2, []), (3, []), (4, []), (5, []), (6, []), (7, []), (8, []), (9, []), (10, []), (11, []), (12, []), (13, []), (14, []), (15, [14, 0, 1, 2, 3, 4, 5, 6, 7, 8, 9, 10, 11, 12, 13])]), (40, [(0, []), (1, []), (2, []), (3, []), (4, []), (5, []), (6, []), (7, []), (8, []), (9, []), (10, []), (11, []), (12, []), (13, [12, 0, 1, 2, 3, 4, 5, 6, 7, 8, 9, 10, 11])])]⟩
theorem cons_q26 : ConsOk Try.prog E_q26.cons := consOk_cons m_q21 (callable_of Try.func127 (by kernel_rfl)) (consOk_cons m_q22 (callable_of Try.func90 (by kernel_rfl)) (consOk_cons m_q24 (callable_of Try.func149 (by kernel_rfl)) (consOk_cons m_q25 (callable_of Try.func92 (by kernel_rfl)) (consOk_cons m_q23 (callable_of Try.func129 (by kernel_rfl)) (consOk_nil)))))
theorem S_q26_4_ok (x : Tys D_q26_4.head.ks) : stepL E_q26 D_q26_4 body_q26_4 x = S_impl_natDiv_4 x := by kernel_rfl
theorem loops_q26_4 : loopsIn body_q26_4 = [] := by kernel_rfl
theorem l_q26_4 : LoopOk Try.prog (mkLM D_q26_4 S_q26_4_w) body_q26_4 := loop_ok2 mix layD_ok cons_q26 (by kernel_rfl) (loops_mem loops_q26_4 (trivial)) S_q26_4_ok fun _ _ h => h
theorem S_q26_3_ok (x : Tys D_q26_3.head.ks) : stepL E_q26 D_q26_3 body_q26_3 x = S_impl_natDiv_3 x := by kernel_rfl
theorem loops_q26_3 : loopsIn body_q26_3 = [] := by kernel_rfl
theorem l_q26_3 : LoopOk Try.prog (mkLM D_q26_3 S_q26_3_w) body_q26_3 := loop_ok2 mix layD_ok cons_q26 (by kernel_rfl) (loops_mem loops_q26_3 (trivial)) S_q26_3_ok fun _ _ h => h
theorem S_q26_2_ok (x : Tys D_q26_2.head.ks) : stepL E_q26 D_q26_2 body_q26_2 x = S_impl_natDiv_2 x := by kernel_rfl
theorem loops_q26_2 : loopsIn body_q26_2 = [] := by kernel_rfl
theorem l_q26_2 : LoopOk Try.prog (mkLM D_q26_2 S_q26_2_w) body_q26_2 := loop_ok2 mix layD_ok cons_q26 (by kernel_rfl) (loops_mem loops_q26_2 (trivial)) S_q26_2_ok fun _ _ h => h
theorem S_q26_1_ok (x : Tys D_q26_1.head.ks) : stepL E_q26 D_q26_1 body_q26_1 x = S_impl_natDiv_1 x := by kernel_rfl
theorem loops_q26_1 : loopsIn body_q26_1 = [body_q26_2, body_q26_3, body_q26_4] := by kernel_rfl
theorem l_q26_1 : LoopOk Try.prog (mkLM D_q26_1 S_q26_1_w) body_q26_1 := loop_ok2 mix layD_ok cons_q26 (by kernel_rfl) (loops_mem loops_q26_1 (⟨⟨_, by kernel_rfl, l_q26_2⟩, ⟨⟨_, by kernel_rfl, l_q26_3⟩, ⟨⟨_, by kernel_rfl, l_q26_4⟩, trivial⟩⟩⟩)) S_q26_1_ok fun _ _ h => h
theorem S_q26_0_ok (x : Tys D_q26_0.head.ks) : stepL E_q26 D_q26_0 body_q26_0 x = S_impl_natDiv_0 x := by kernel_rfl
theorem loops_q26_0 : loopsIn body_q26_0 = [] := by kernel_rfl
theorem l_q26_0 : LoopOk Try.prog (mkLM D_q26_0 S_q26_0_w) body_q26_0 := loop_ok2 mix layD_ok cons_q26 (by kernel_rfl) (loops_mem loops_q26_0 (trivial)) S_q26_0_ok fun _ _ h => h
theorem loops_q26 : loopsIn code_q26 = [body_q26_0, body_q26_1] := by kernel_rfl
theorem m_q26 : Meets Try.prog 124 c_q26 := meets_of (E := E_q26) (code := code_q26) mix layD_ok cons_q26 Try.func124 (by kernel_rfl) sg_q26 (by kernel_rfl) (fun y => (y.1, y.2.1)) c_q26.out (fun _ => rfl) c_q26.run (fun x => by kernel_rfl) (by kernel_rfl) (loops_mem loops_q26 (⟨⟨_, by kernel_rfl, l_q26_0⟩, ⟨⟨_, by kernel_rfl, l_q26_1⟩, trivial⟩⟩))
noncomputable def sg_q27 : Sig := ⟨[(false, [.d (.sl .int)]), (false, [.d (.sl .int)])], [], false, [(false, [.own 0])], [(0, .arr false .int)]⟩
noncomputable def c_q27 : Con := ⟨sg_q27, List Int, fun x => M_impl_natGcd x.1 x.2.1, fun r => (r, ())⟩
noncomputable def code_q27 : Code := Try.f115.body.getD .skip
noncomputable def body_q27_0 : Code := (loopsIn code_q27).getD 0 .skip
noncomputable def body_q27_1 : Code := (loopsIn code_q27).getD 1 .skip
noncomputable def D_q27_0 : LoopD := ⟨⟨mkSlots [(0, false, [.d (.sl .int)]), (1, false, [.d (.sl .int)])] 49 0, []⟩, [], [(.exit 0, ⟨mkSlots [(0, false, [.d (.sl .int)]), (1, false, [.d (.sl .int)])] 49 0, []⟩, [])]⟩
noncomputable def D_q27_1 : LoopD := ⟨⟨mkSlots [(7, false, [.d (.int .i64)]), (8, false, [.d (.int .i64)])] 49 0, []⟩, [], [(.exit 2, ⟨mkSlots [(7, false, [.d (.int .i64)])] 49 0, []⟩, [])]⟩
noncomputable def S_q27_0_w (x : Tys D_q27_0.head.ks) : Option (OutT D_q27_0.outs) := @whileO ((List Int) × (List Int) × Unit) ((List Int) × (List Int) × Unit) S_impl_natGcd_0 x
noncomputable def S_q27_1_w (x : Tys D_q27_1.head.ks) : Option (OutT D_q27_1.outs) := @whileO (Int × Int × Unit) (Int × Unit) S_impl_natGcd_1 x
noncomputable def E_q27 : Env := ⟨layD, [(124, c_q26), (90, c_q22)], [(1, mkLM D_q27_0 S_q27_0_w), (7, mkLM D_q27_1 S_q27_1_w)], [(6, [(0, []), (1, []), (2, []), (3, []), (4, []), (5, []), (6, [2, 0, 1]), (7, [5, 6, 0, 1, 2, 3, 4])]), (8, [(0, []), (1, []), (2, []), (3, []), (4, [0, 1]), (5, [3, 4, 0, 1, 2])])]⟩
theorem cons_q27 : ConsOk Try.prog E_q27.cons := consOk_cons m_q26 (callable_of Try.func124 (by kernel_rfl)) (consOk_cons m_q22 (callable_of Try.func90 (by kernel_rfl)) (consOk_nil))
theorem S_q27_1_ok (x : Tys D_q27_1.head.ks) : stepL E_q27 D_q27_1 body_q27_1 x = S_impl_natGcd_1 x := by kernel_rfl
theorem loops_q27_1 : loopsIn body_q27_1 = [] := by kernel_rfl
theorem l_q27_1 : LoopOk Try.prog (mkLM D_q27_1 S_q27_1_w) body_q27_1 := loop_ok2 mix layD_ok cons_q27 (by kernel_rfl) (loops_mem loops_q27_1 (trivial)) S_q27_1_ok fun _ _ h => h
theorem S_q27_0_ok (x : Tys D_q27_0.head.ks) : stepL E_q27 D_q27_0 body_q27_0 x = S_impl_natGcd_0 x := by kernel_rfl
theorem loops_q27_0 : loopsIn body_q27_0 = [] := by kernel_rfl
theorem l_q27_0 : LoopOk Try.prog (mkLM D_q27_0 S_q27_0_w) body_q27_0 := loop_ok2 mix layD_ok cons_q27 (by kernel_rfl) (loops_mem loops_q27_0 (trivial)) S_q27_0_ok fun _ _ h => h
theorem loops_q27 : loopsIn code_q27 = [body_q27_0, body_q27_1] := by kernel_rfl
theorem m_q27 : Meets Try.prog 115 c_q27 := meets_of (E := E_q27) (code := code_q27) mix layD_ok cons_q27 Try.func115 (by kernel_rfl) sg_q27 (by kernel_rfl) (fun y => y.1) c_q27.out (fun _ => rfl) c_q27.run (fun x => by kernel_rfl) (by kernel_rfl) (loops_mem loops_q27 (⟨⟨_, by kernel_rfl, l_q27_0⟩, ⟨⟨_, by kernel_rfl, l_q27_1⟩, trivial⟩⟩))
noncomputable def sg_q28 : Sig := ⟨[(false, [.d (.sl .int)])], [], false, [(false, [.d (.bool)])], []⟩
noncomputable def c_q28 : Con := ⟨sg_q28, Bool, fun x => M_impl_isOne x.1, fun r => (r, ())⟩
noncomputable def code_q28 : Code := Try.f114.body.getD .skip
noncomputable def E_q28 : Env := ⟨layD, [], [], []⟩
theorem cons_q28 : ConsOk Try.prog E_q28.cons := consOk_nil
theorem loops_q28 : loopsIn code_q28 = [] := by kernel_rfl
theorem m_q28 : Meets Try.prog 114 c_q28 := meets_of (E := E_q28) (code := code_q28) mix layD_ok cons_q28 Try.func114 (by kernel_rfl) sg_q28 (by kernel_rfl) (fun y => y.1) c_q28.out (fun _ => rfl) c_q28.run (fun x => by kernel_rfl) (by kernel_rfl) (loops_mem loops_q28 (trivial))
noncomputable def sg_q29 : Sig := ⟨[(true, [.d (.bool), .d (.sl .int)]), (false, [.d (.sl .int)])], [], false, [(true, [.d (.bool), .d (.sl .int), .d (.sl .int)])], []⟩
noncomputable def c_q29 : Con := ⟨sg_q29, Rt, fun x => M_impl_lowest (⟨x.1, x.2.1⟩ : Bg) x.2.2.1, fun r => (r.neg, r.mag, r.den, ())⟩
noncomputable def code_q29 : Code := Try.f88.body.getD .skip
noncomputable def E_q29 : Env := ⟨layD, [(115, c_q27), (114, c_q28), (124, c_q26), (125, c_q15)], [], []⟩
theorem cons_q29 : ConsOk Try.prog E_q29.cons := consOk_cons m_q27 (callable_of Try.func115 (by kernel_rfl)) (consOk_cons m_q28 (callable_of Try.func114 (by kernel_rfl)) (consOk_cons m_q26 (callable_of Try.func124 (by kernel_rfl)) (consOk_cons m_q15 (callable_of Try.func125 (by kernel_rfl)) (consOk_nil))))
theorem loops_q29 : loopsIn code_q29 = [] := by kernel_rfl
theorem m_q29 : Meets Try.prog 88 c_q29 := meets_of (E := E_q29) (code := code_q29) mix layD_ok cons_q29 Try.func88 (by kernel_rfl) sg_q29 (by kernel_rfl) (fun y => (⟨y.1, y.2.1, y.2.2.1⟩ : Rt)) c_q29.out (fun _ => rfl) c_q29.run (fun x => by kernel_rfl) (by kernel_rfl) (loops_mem loops_q29 (trivial))
noncomputable def sg_q30 : Sig := ⟨[(true, [.d (.bool), .d (.sl .int), .d (.sl .int)])], [], false, [(true, [.d (.bool), .own 0, .own 1])], [(0, .arr false .int), (1, .arr false .int)]⟩
noncomputable def c_q30 : Con := ⟨sg_q30, Rt, fun x => M_impl_copyRat (⟨x.1, x.2.1, x.2.2.1⟩ : Rt), fun r => (r.neg, r.mag, r.den, ())⟩
noncomputable def code_q30 : Code := Try.f77.body.getD .skip
noncomputable def E_q30 : Env := ⟨layD, [(90, c_q22)], [], [(1, [(0, []), (1, []), (2, []), (3, []), (4, []), (5, []), (8, []), (9, []), (6, [5, 4, 3]), (7, []), (10, [9, 6, 8, 5, 4, 3]), (11, []), (12, [11, 10, 0, 1, 2, 3, 4, 5, 6, 7, 8, 9])])]⟩
theorem cons_q30 : ConsOk Try.prog E_q30.cons := consOk_cons m_q22 (callable_of Try.func90 (by kernel_rfl)) (consOk_nil)
theorem loops_q30 : loopsIn code_q30 = [] := by kernel_rfl
theorem m_q30 : Meets Try.prog 77 c_q30 := meets_of (E := E_q30) (code := code_q30) mix layD_ok cons_q30 Try.func77 (by kernel_rfl) sg_q30 (by kernel_rfl) (fun y => (⟨y.1, y.2.1, y.2.2.1⟩ : Rt)) c_q30.out (fun _ => rfl) c_q30.run (fun x => by kernel_rfl) (by kernel_rfl) (loops_mem loops_q30 (trivial))
noncomputable def sg_q31 : Sig := ⟨[(true, [.d (.bool), .d (.sl .int)]), (true, [.d (.bool), .d (.sl .int)])], [], false, [(true, [.d (.bool), .own 0, .own 1])], [(0, .arr false .int), (1, .arr false .int)]⟩
noncomputable def c_q31 : Con := ⟨sg_q31, Rt, fun x => M_impl_RatMake (⟨x.1, x.2.1⟩ : Bg) (⟨x.2.2.1, x.2.2.2.1⟩ : Bg), fun r => (r.neg, r.mag, r.den, ())⟩
noncomputable def code_q31 : Code := Try.f142.body.getD .skip
noncomputable def E_q31 : Env := ⟨layD, [(112, c_q19), (125, c_q20), (88, c_q29), (77, c_q30)], [], [(3, [(0, []), (1, []), (2, []), (3, []), (4, []), (5, []), (6, []), (8, []), (9, []), (7, [4, 6, 1, 3, 5, 0, 2]), (10, [7, 9, 4, 6, 8, 1, 3, 5, 0, 2]), (11, [10, 7, 9, 4, 6, 8, 1, 3, 5, 0, 2]), (12, [11, 0, 1, 2, 3, 4, 5, 6, 7, 8, 9, 10])])]⟩
theorem cons_q31 : ConsOk Try.prog E_q31.cons := consOk_cons m_q19 (callable_of Try.func112 (by kernel_rfl)) (consOk_cons m_q20 (callable_of Try.func125 (by kernel_rfl)) (consOk_cons m_q29 (callable_of Try.func88 (by kernel_rfl)) (consOk_cons m_q30 (callable_of Try.func77 (by kernel_rfl)) (consOk_nil))))
theorem loops_q31 : loopsIn code_q31 = [] := by kernel_rfl
theorem m_q31 : Meets Try.prog 142 c_q31 := meets_of (E := E_q31) (code := code_q31) mix layD_ok cons_q31 Try.func142 (by kernel_rfl) sg_q31 (by kernel_rfl) (fun y => (⟨y.1, y.2.1, y.2.2.1⟩ : Rt)) c_q31.out (fun _ => rfl) c_q31.run (fun x => by kernel_rfl) (by kernel_rfl) (loops_mem loops_q31 (trivial))
noncomputable def sg_q32 : Sig := ⟨[(false, [.d (.int .i64)]), (false, [.d (.int .i64)])], [], false, [(true, [.d (.bool), .own 0, .own 1])], [(0, .arr false .int), (1, .arr false .int)]⟩
noncomputable def c_q32 : Con := ⟨sg_q32, Rt, fun x => M_impl_RatOf x.1 x.2.1, fun r => (r.neg, r.mag, r.den, ())⟩
noncomputable def code_q32 : Code := Try.f103.body.getD .skip
noncomputable def E_q32 : Env := ⟨layD, [(143, c_q17), (142, c_q31)], [], []⟩
theorem cons_q32 : ConsOk Try.prog E_q32.cons := consOk_cons m_q17 (callable_of Try.func143 (by kernel_rfl)) (consOk_cons m_q31 (callable_of Try.func142 (by kernel_rfl)) (consOk_nil))
theorem loops_q32 : loopsIn code_q32 = [] := by kernel_rfl
theorem m_q32 : Meets Try.prog 103 c_q32 := meets_of (E := E_q32) (code := code_q32) mix layD_ok cons_q32 Try.func103 (by kernel_rfl) sg_q32 (by kernel_rfl) (fun y => (⟨y.1, y.2.1, y.2.2.1⟩ : Rt)) c_q32.out (fun _ => rfl) c_q32.run (fun x => by kernel_rfl) (by kernel_rfl) (loops_mem loops_q32 (trivial))
noncomputable def sg_q33 : Sig := ⟨[(false, [.d (.int .i64)])], [], false, [(true, [.d (.bool), .own 0, .own 1])], [(0, .arr false .int), (1, .arr false .int)]⟩
noncomputable def c_q33 : Con := ⟨sg_q33, Rt, fun x => M_impl_RatFromInt x.1, fun r => (r.neg, r.mag, r.den, ())⟩
noncomputable def code_q33 : Code := Try.f65.body.getD .skip
noncomputable def E_q33 : Env := ⟨layD, [(103, c_q32)], [], []⟩
theorem cons_q33 : ConsOk Try.prog E_q33.cons := consOk_cons m_q32 (callable_of Try.func103 (by kernel_rfl)) (consOk_nil)
theorem loops_q33 : loopsIn code_q33 = [] := by kernel_rfl
theorem m_q33 : Meets Try.prog 65 c_q33 := meets_of (E := E_q33) (code := code_q33) mix layD_ok cons_q33 Try.func65 (by kernel_rfl) sg_q33 (by kernel_rfl) (fun y => (⟨y.1, y.2.1, y.2.2.1⟩ : Rt)) c_q33.out (fun _ => rfl) c_q33.run (fun x => by kernel_rfl) (by kernel_rfl) (loops_mem loops_q33 (trivial))
noncomputable def sg_q34 : Sig := ⟨[(false, [.d (.int .i64)])], [], false, [(true, [.d (.bool), .own 0, .own 1])], [(0, .arr false .int), (1, .arr false .int)]⟩
noncomputable def c_q34 : Con := ⟨sg_q34, Rt, fun x => M_impl_whole x.1, fun r => (r.neg, r.mag, r.den, ())⟩
noncomputable def code_q34 : Code := Try.f37.body.getD .skip
noncomputable def E_q34 : Env := ⟨layD, [(65, c_q33)], [], []⟩
theorem cons_q34 : ConsOk Try.prog E_q34.cons := consOk_cons m_q33 (callable_of Try.func65 (by kernel_rfl)) (consOk_nil)
theorem loops_q34 : loopsIn code_q34 = [] := by kernel_rfl
theorem m_q34 : Meets Try.prog 37 c_q34 := meets_of (E := E_q34) (code := code_q34) mix layD_ok cons_q34 Try.func37 (by kernel_rfl) sg_q34 (by kernel_rfl) (fun y => (⟨y.1, y.2.1, y.2.2.1⟩ : Rt)) c_q34.out (fun _ => rfl) c_q34.run (fun x => by kernel_rfl) (by kernel_rfl) (loops_mem loops_q34 (trivial))
noncomputable def sg_q35 : Sig := ⟨[(false, [.d (.int .i64)]), (false, [.d (.int .i64)])], [], false, [(true, [.d (.bool), .own 0, .own 1])], [(0, .arr false .int), (1, .arr false .int)]⟩
noncomputable def c_q35 : Con := ⟨sg_q35, Rt, fun x => M_impl_IdentityMatrix_c1 x.1 x.2.1, fun r => (r.neg, r.mag, r.den, ())⟩
noncomputable def code_q35 : Code := Try.f36.body.getD .skip
noncomputable def E_q35 : Env := ⟨layD, [(37, c_q34)], [], []⟩
theorem cons_q35 : ConsOk Try.prog E_q35.cons := consOk_cons m_q34 (callable_of Try.func37 (by kernel_rfl)) (consOk_nil)
theorem loops_q35 : loopsIn code_q35 = [] := by kernel_rfl
theorem m_q35 : Meets Try.prog 36 c_q35 := meets_of (E := E_q35) (code := code_q35) mix layD_ok cons_q35 Try.func36 (by kernel_rfl) sg_q35 (by kernel_rfl) (fun y => (⟨y.1, y.2.1, y.2.2.1⟩ : Rt)) c_q35.out (fun _ => rfl) c_q35.run (fun x => by kernel_rfl) (by kernel_rfl) (loops_mem loops_q35 (trivial))
noncomputable def sg_q36 : Sig := ⟨[(false, [.d (.int .i64)]), (false, [.d (.int .i64)]), (false, [.fn 36 []])], [], false, [(true, [.d (.int .i64), .d (.int .i64), .dp 0])], [(0, .deep .rat)]⟩
noncomputable def c_q36 : Con := ⟨sg_q36, Mx, fun x => M_impl_built__impl_IdentityMatrix_c1 x.1 x.2.1, fun r => (r.rows, r.cols, r.cells, ())⟩
noncomputable def code_q36 : Code := Try.f35.body.getD .skip
noncomputable def body_q36_0 : Code := (loopsIn code_q36).getD 0 .skip
noncomputable def body_q36_1 : Code := (loopsIn body_q36_0).getD 0 .skip
noncomputable def D_q36_0 : LoopD := ⟨⟨mkSlots [(1, false, [.d (.int .i64)]), (2, false, [.fn 36 []]), (6, false, [.lp 384 0]), (7, false, [.lp 448 0]), (13, false, [.d (.int .i64)]), (14, false, [.d (.int .i64)])] 33 0, [(384, .box [.d (.int .i64), .d (.int .i64), .d (.sl .rat)]), (448, .box [.d (.int .i64), .d (.int .i64), .dp 2176]), (2176, .deep .rat)]⟩, [(.boxD 448 2, 2176, .rat)], [(.exit 0, ⟨mkSlots [(6, false, [.lp 384 0]), (7, false, [.lp 448 0])] 33 0, [(384, .box [.d (.int .i64), .d (.int .i64), .d (.sl .rat)]), (448, .box [.d (.int .i64), .d (.int .i64), .dp 2176]), (2176, .deep .rat)]⟩, [(.boxD 448 2, 2176, .rat)])]⟩
noncomputable def D_q36_1 : LoopD := ⟨⟨mkSlots [(1, false, [.d (.int .i64)]), (2, false, [.fn 36 []]), (6, false, [.lp 384 0]), (7, false, [.lp 448 0]), (8, false, [.d (.int .i64)]), (13, false, [.d (.int .i64)]), (14, false, [.d (.int .i64)]), (17, false, [.d (.int .i64)]), (18, false, [.d (.int .i64)])] 33 0, [(384, .box [.d (.int .i64), .d (.int .i64), .d (.sl .rat)]), (448, .box [.d (.int .i64), .d (.int .i64), .dp 2176]), (2176, .deep .rat)]⟩, [(.boxD 448 2, 2176, .rat)], [(.exit 2, ⟨mkSlots [(1, false, [.d (.int .i64)]), (2, false, [.fn 36 []]), (6, false, [.lp 384 0]), (7, false, [.lp 448 0]), (13, false, [.d (.int .i64)]), (14, false, [.d (.int .i64)])] 33 0, [(384, .box [.d (.int .i64), .d (.int .i64), .d (.sl .rat)]), (448, .box [.d (.int .i64), .d (.int .i64), .dp 2176]), (2176, .deep .rat)]⟩, [(.boxD 448 2, 2176, .rat)])]⟩
noncomputable def S_q36_0_w (x : Tys D_q36_0.head.ks) : Option (OutT D_q36_0.outs) := @whileO (Int × Int × Int × Int × Int × (List Rt) × Int × Int × (List Rt) × Unit) (Int × Int × (List Rt) × Int × Int × (List Rt) × Unit) S_impl_built__impl_IdentityMatrix_c1_0 x
noncomputable def S_q36_1_w (x : Tys D_q36_1.head.ks) : Option (OutT D_q36_1.outs) := @whileO (Int × Int × Int × Int × Int × Int × Int × Int × (List Rt) × Int × Int × (List Rt) × Unit) (Int × Int × Int × Int × Int × (List Rt) × Int × Int × (List Rt) × Unit) S_impl_built__impl_IdentityMatrix_c1_1 x
noncomputable def E_q36 : Env := ⟨layD, [(36, c_q35)], [(3, mkLM D_q36_0 S_q36_0_w), (6, mkLM D_q36_1 S_q36_1_w)], [(8, [(0, []), (1, []), (2, []), (3, []), (4, []), (5, [2, 3, 4]), (6, [5, 2, 3, 4]), (7, [1, 6, 5, 0, 2, 3, 4]), (8, []), (9, [8, 7, 0, 1, 2, 3, 4, 5, 6])])]⟩
theorem cons_q36 : ConsOk Try.prog E_q36.cons := consOk_cons m_q35 (callable_of Try.func36 (by kernel_rfl)) (consOk_nil)
theorem S_q36_1_ok (x : Tys D_q36_1.head.ks) : stepL E_q36 D_q36_1 body_q36_1 x = S_impl_built__impl_IdentityMatrix_c1_1 x := by kernel_rfl
theorem loops_q36_1 : loopsIn body_q36_1 = [] := by kernel_rfl
theorem l_q36_1 : LoopOk Try.prog (mkLM D_q36_1 S_q36_1_w) body_q36_1 := loop_ok2 mix layD_ok cons_q36 (by kernel_rfl) (loops_mem loops_q36_1 (trivial)) S_q36_1_ok fun _ _ h => h
theorem S_q36_0_ok (x : Tys D_q36_0.head.ks) : stepL E_q36 D_q36_0 body_q36_0 x = S_impl_built__impl_IdentityMatrix_c1_0 x := by kernel_rfl
theorem loops_q36_0 : loopsIn body_q36_0 = [body_q36_1] := by kernel_rfl
theorem l_q36_0 : LoopOk Try.prog (mkLM D_q36_0 S_q36_0_w) body_q36_0 := loop_ok2 mix layD_ok cons_q36 (by kernel_rfl) (loops_mem loops_q36_0 (⟨⟨_, by kernel_rfl, l_q36_1⟩, trivial⟩)) S_q36_0_ok fun _ _ h => h
theorem loops_q36 : loopsIn code_q36 = [body_q36_0] := by kernel_rfl
theorem m_q36 : Meets Try.prog 35 c_q36 := meets_of (E := E_q36) (code := code_q36) mix layD_ok cons_q36 Try.func35 (by kernel_rfl) sg_q36 (by kernel_rfl) (fun y => (⟨y.1, y.2.1, y.2.2.1⟩ : Mx)) c_q36.out (fun _ => rfl) c_q36.run (fun x => by kernel_rfl) (by kernel_rfl) (loops_mem loops_q36 (⟨⟨_, by kernel_rfl, l_q36_0⟩, trivial⟩))
noncomputable def sg_q37 : Sig := ⟨[(false, [.d (.int .i64)])], [], false, [(true, [.d (.int .i64), .d (.int .i64), .dp 0])], [(0, .deep .rat)]⟩
noncomputable def c_q37 : Con := ⟨sg_q37, Mx, fun x => M_impl_IdentityMatrix x.1, fun r => (r.rows, r.cols, r.cells, ())⟩
noncomputable def code_q37 : Code := Try.f11.body.getD .skip
noncomputable def E_q37 : Env := ⟨layD, [(34, c_q13), (35, c_q36)], [], []⟩
theorem cons_q37 : ConsOk Try.prog E_q37.cons := consOk_cons m_q13 (callable_of Try.func34 (by kernel_rfl)) (consOk_cons m_q36 (callable_of Try.func35 (by kernel_rfl)) (consOk_nil))
theorem loops_q37 : loopsIn code_q37 = [] := by kernel_rfl
theorem m_q37 : Meets Try.prog 11 c_q37 := meets_of (E := E_q37) (code := code_q37) mix layD_ok cons_q37 Try.func11 (by kernel_rfl) sg_q37 (by kernel_rfl) (fun y => (⟨y.1, y.2.1, y.2.2.1⟩ : Mx)) c_q37.out (fun _ => rfl) c_q37.run (fun x => by kernel_rfl) (by kernel_rfl) (loops_mem loops_q37 (trivial))
noncomputable def sg_q38 : Sig := ⟨[(false, [.d (.sl .int)]), (false, [.d (.sl .int)])], [], false, [(false, [.d (.bool)])], []⟩
noncomputable def c_q38 : Con := ⟨sg_q38, Bool, fun x => M_laws_eqIntS x.1 x.2.1, fun r => (r, ())⟩
noncomputable def code_q38 : Code := Try.f24.body.getD .skip
noncomputable def body_q38_0 : Code := (loopsIn code_q38).getD 0 .skip
noncomputable def D_q38_0 : LoopD := ⟨⟨mkSlots [(0, false, [.d (.sl .int)]), (1, false, [.d (.sl .int)]), (5, false, [.d (.int .i64)])] 26 0, []⟩, [], [(.ret, ⟨mkSlots [(4, false, [.d (.bool)])] 26 0, []⟩, []), (.exit 0, ⟨mkSlots [] 26 0, []⟩, [])]⟩
noncomputable def S_q38_0_w (x : Tys D_q38_0.head.ks) : Option (OutT D_q38_0.outs) := @whileO ((List Int) × (List Int) × Int × Unit) ((Bool × Unit) ⊕ (Unit)) S_laws_eqIntS_0 x
noncomputable def E_q38 : Env := ⟨layD, [], [(4, mkLM D_q38_0 S_q38_0_w)], [(6, [(0, []), (1, []), (2, []), (3, []), (4, []), (5, []), (6, []), (7, []), (8, [])])]⟩
theorem cons_q38 : ConsOk Try.prog E_q38.cons := consOk_nil
theorem S_q38_0_ok (x : Tys D_q38_0.head.ks) : stepL E_q38 D_q38_0 body_q38_0 x = S_laws_eqIntS_0 x := by kernel_rfl
theorem loops_q38_0 : loopsIn body_q38_0 = [] := by kernel_rfl
theorem l_q38_0 : LoopOk Try.prog (mkLM D_q38_0 S_q38_0_w) body_q38_0 := loop_ok2 mix layD_ok cons_q38 (by kernel_rfl) (loops_mem loops_q38_0 (trivial)) S_q38_0_ok fun _ _ h => h
theorem loops_q38 : loopsIn code_q38 = [body_q38_0] := by kernel_rfl
theorem m_q38 : Meets Try.prog 24 c_q38 := meets_of (E := E_q38) (code := code_q38) mix layD_ok cons_q38 Try.func24 (by kernel_rfl) sg_q38 (by kernel_rfl) (fun y => y.1) c_q38.out (fun _ => rfl) c_q38.run (fun x => by kernel_rfl) (by kernel_rfl) (loops_mem loops_q38 (⟨⟨_, by kernel_rfl, l_q38_0⟩, trivial⟩))
noncomputable def sg_q39 : Sig := ⟨[(true, [.d (.bool), .d (.sl .int)]), (true, [.d (.bool), .d (.sl .int)])], [], false, [(false, [.d (.bool)])], []⟩
noncomputable def c_q39 : Con := ⟨sg_q39, Bool, fun x => M_laws_eqBigInt (⟨x.1, x.2.1⟩ : Bg) (⟨x.2.2.1, x.2.2.2.1⟩ : Bg), fun r => (r, ())⟩
noncomputable def code_q39 : Code := Try.f104.body.getD .skip
noncomputable def E_q39 : Env := ⟨layD, [(24, c_q38)], [], []⟩
theorem cons_q39 : ConsOk Try.prog E_q39.cons := consOk_cons m_q38 (callable_of Try.func24 (by kernel_rfl)) (consOk_nil)
theorem loops_q39 : loopsIn code_q39 = [] := by kernel_rfl
theorem m_q39 : Meets Try.prog 104 c_q39 := meets_of (E := E_q39) (code := code_q39) mix layD_ok cons_q39 Try.func104 (by kernel_rfl) sg_q39 (by kernel_rfl) (fun y => y.1) c_q39.out (fun _ => rfl) c_q39.run (fun x => by kernel_rfl) (by kernel_rfl) (loops_mem loops_q39 (trivial))
noncomputable def sg_q40 : Sig := ⟨[(true, [.d (.bool), .d (.sl .int), .d (.sl .int)]), (true, [.d (.bool), .d (.sl .int), .d (.sl .int)])], [], false, [(false, [.d (.bool)])], []⟩
noncomputable def c_q40 : Con := ⟨sg_q40, Bool, fun x => M_laws_eqRat (⟨x.1, x.2.1, x.2.2.1⟩ : Rt) (⟨x.2.2.2.1, x.2.2.2.2.1, x.2.2.2.2.2.1⟩ : Rt), fun r => (r, ())⟩
noncomputable def code_q40 : Code := Try.f66.body.getD .skip
noncomputable def E_q40 : Env := ⟨layD, [(104, c_q39), (24, c_q38)], [], []⟩
theorem cons_q40 : ConsOk Try.prog E_q40.cons := consOk_cons m_q39 (callable_of Try.func104 (by kernel_rfl)) (consOk_cons m_q38 (callable_of Try.func24 (by kernel_rfl)) (consOk_nil))
theorem loops_q40 : loopsIn code_q40 = [] := by kernel_rfl
theorem m_q40 : Meets Try.prog 66 c_q40 := meets_of (E := E_q40) (code := code_q40) mix layD_ok cons_q40 Try.func66 (by kernel_rfl) sg_q40 (by kernel_rfl) (fun y => y.1) c_q40.out (fun _ => rfl) c_q40.run (fun x => by kernel_rfl) (by kernel_rfl) (loops_mem loops_q40 (trivial))
noncomputable def sg_q41 : Sig := ⟨[(false, [.d (.sl .rat)]), (false, [.d (.sl .rat)])], [], false, [(false, [.d (.bool)])], []⟩
noncomputable def c_q41 : Con := ⟨sg_q41, Bool, fun x => M_laws_eqRatS x.1 x.2.1, fun r => (r, ())⟩
noncomputable def code_q41 : Code := Try.f38.body.getD .skip
noncomputable def body_q41_0 : Code := (loopsIn code_q41).getD 0 .skip
noncomputable def D_q41_0 : LoopD := ⟨⟨mkSlots [(0, false, [.d (.sl .rat)]), (1, false, [.d (.sl .rat)]), (5, false, [.d (.int .i64)])] 27 0, []⟩, [], [(.ret, ⟨mkSlots [(4, false, [.d (.bool)])] 27 0, []⟩, []), (.exit 0, ⟨mkSlots [] 27 0, []⟩, [])]⟩
noncomputable def S_q41_0_w (x : Tys D_q41_0.head.ks) : Option (OutT D_q41_0.outs) := @whileO ((List Rt) × (List Rt) × Int × Unit) ((Bool × Unit) ⊕ (Unit)) S_laws_eqRatS_0 x
noncomputable def E_q41 : Env := ⟨layD, [(66, c_q40)], [(4, mkLM D_q41_0 S_q41_0_w)], [(6, [(0, []), (1, []), (2, []), (3, []), (4, []), (5, []), (6, []), (7, []), (8, [3, 7, 2, 6, 0, 1, 4, 5]), (9, [])])]⟩
theorem cons_q41 : ConsOk Try.prog E_q41.cons := consOk_cons m_q40 (callable_of Try.func66 (by kernel_rfl)) (consOk_nil)
theorem S_q41_0_ok (x : Tys D_q41_0.head.ks) : stepL E_q41 D_q41_0 body_q41_0 x = S_laws_eqRatS_0 x := by kernel_rfl
theorem loops_q41_0 : loopsIn body_q41_0 = [] := by kernel_rfl
theorem l_q41_0 : LoopOk Try.prog (mkLM D_q41_0 S_q41_0_w) body_q41_0 := loop_ok2 mix layD_ok cons_q41 (by kernel_rfl) (loops_mem loops_q41_0 (trivial)) S_q41_0_ok fun _ _ h => h
theorem loops_q41 : loopsIn code_q41 = [body_q41_0] := by kernel_rfl
theorem m_q41 : Meets Try.prog 38 c_q41 := meets_of (E := E_q41) (code := code_q41) mix layD_ok cons_q41 Try.func38 (by kernel_rfl) sg_q41 (by kernel_rfl) (fun y => y.1) c_q41.out (fun _ => rfl) c_q41.run (fun x => by kernel_rfl) (by kernel_rfl) (loops_mem loops_q41 (⟨⟨_, by kernel_rfl, l_q41_0⟩, trivial⟩))
noncomputable def sg_q42 : Sig := ⟨[(true, [.d (.int .i64), .d (.int .i64), .d (.sl .rat)]), (true, [.d (.int .i64), .d (.int .i64), .d (.sl .rat)])], [], false, [(false, [.d (.bool)])], []⟩
noncomputable def c_q42 : Con := ⟨sg_q42, Bool, fun x => M_laws_eqMatrix (⟨x.1, x.2.1, x.2.2.1⟩ : Mx) (⟨x.2.2.2.1, x.2.2.2.2.1, x.2.2.2.2.2.1⟩ : Mx), fun r => (r, ())⟩
noncomputable def code_q42 : Code := Try.f12.body.getD .skip
noncomputable def E_q42 : Env := ⟨layD, [(38, c_q41)], [], []⟩
theorem cons_q42 : ConsOk Try.prog E_q42.cons := consOk_cons m_q41 (callable_of Try.func38 (by kernel_rfl)) (consOk_nil)
theorem loops_q42 : loopsIn code_q42 = [] := by kernel_rfl
theorem m_q42 : Meets Try.prog 12 c_q42 := meets_of (E := E_q42) (code := code_q42) mix layD_ok cons_q42 Try.func12 (by kernel_rfl) sg_q42 (by kernel_rfl) (fun y => y.1) c_q42.out (fun _ => rfl) c_q42.run (fun x => by kernel_rfl) (by kernel_rfl) (loops_mem loops_q42 (trivial))
noncomputable def sg_q43 : Sig := ⟨[(false, [.own 63]), (false, [.d (.int .i64)])], [(63, .arr false .int)], false, [(false, [.d (.int .i64)])], [(63, .arr false .int)]⟩
noncomputable def c_q43 : Con := ⟨sg_q43, Int × List Int, fun x => M_laws_markIntS_md x.2.1 x.1, fun r => (r.1, r.2, ())⟩
noncomputable def code_q43 : Code := Try.f25.body.getD .skip
noncomputable def body_q43_0 : Code := (loopsIn code_q43).getD 0 .skip
noncomputable def D_q43_0 : LoopD := ⟨⟨mkSlots [(0, false, [.own 63]), (1, false, [.d (.int .i64)]), (5, false, [.d (.int .i64)])] 19 0, [(63, .arr false .int)]⟩, [], [(.exit 0, ⟨mkSlots [(1, false, [.d (.int .i64)])] 19 0, [(63, .arr false .int)]⟩, [])]⟩
noncomputable def S_q43_0_w (x : Tys D_q43_0.head.ks) : Option (OutT D_q43_0.outs) := @whileO (Int × Int × (List Int) × Unit) (Int × (List Int) × Unit) S_laws_markIntS_md_0 x
noncomputable def E_q43 : Env := ⟨layD, [], [(2, mkLM D_q43_0 S_q43_0_w)], []⟩
theorem cons_q43 : ConsOk Try.prog E_q43.cons := consOk_nil
theorem S_q43_0_ok (x : Tys D_q43_0.head.ks) : stepL E_q43 D_q43_0 body_q43_0 x = S_laws_markIntS_md_0 x := by kernel_rfl
theorem loops_q43_0 : loopsIn body_q43_0 = [] := by kernel_rfl
theorem l_q43_0 : LoopOk Try.prog (mkLM D_q43_0 S_q43_0_w) body_q43_0 := loop_ok2 mix layD_ok cons_q43 (by kernel_rfl) (loops_mem loops_q43_0 (trivial)) S_q43_0_ok fun _ _ h => h
theorem loops_q43 : loopsIn code_q43 = [body_q43_0] := by kernel_rfl
theorem m_q43 : Meets Try.prog 25 c_q43 := meets_of (E := E_q43) (code := code_q43) mix layD_ok cons_q43 Try.func25 (by kernel_rfl) sg_q43 (by kernel_rfl) (fun y => (y.1, y.2.1)) c_q43.out (fun _ => rfl) c_q43.run (fun x => by kernel_rfl) (by kernel_rfl) (loops_mem loops_q43 (⟨⟨_, by kernel_rfl, l_q43_0⟩, trivial⟩))
noncomputable def sg_q44 : Sig := ⟨[(false, [.dp 63]), (false, [.d (.int .i64)])], [(63, .deep .rat)], false, [(false, [.d (.int .i64)])], [(63, .deep .rat)]⟩
noncomputable def c_q44 : Con := ⟨sg_q44, Int × List Rt, fun x => M_laws_markRatS_md x.2.1 x.1, fun r => (r.1, r.2, ())⟩
noncomputable def code_q44 : Code := Try.f39.body.getD .skip
noncomputable def body_q44_0 : Code := (loopsIn code_q44).getD 0 .skip
noncomputable def D_q44_0 : LoopD := ⟨⟨mkSlots [(0, false, [.dp 63]), (1, false, [.d (.int .i64)]), (5, false, [.d (.int .i64)])] 38 0, [(63, .deep .rat)]⟩, [], [(.exit 0, ⟨mkSlots [(1, false, [.d (.int .i64)])] 38 0, [(63, .deep .rat)]⟩, [])]⟩
noncomputable def S_q44_0_w (x : Tys D_q44_0.head.ks) : Option (OutT D_q44_0.outs) := @whileO (Int × Int × (List Rt) × Unit) (Int × (List Rt) × Unit) S_laws_markRatS_md_0 x
noncomputable def E_q44 : Env := ⟨layD, [(25, c_q43)], [(2, mkLM D_q44_0 S_q44_0_w)], []⟩
theorem cons_q44 : ConsOk Try.prog E_q44.cons := consOk_cons m_q43 (callable_of Try.func25 (by kernel_rfl)) (consOk_nil)
theorem S_q44_0_ok (x : Tys D_q44_0.head.ks) : stepL E_q44 D_q44_0 body_q44_0 x = S_laws_markRatS_md_0 x := by kernel_rfl
theorem loops_q44_0 : loopsIn body_q44_0 = [] := by kernel_rfl
theorem l_q44_0 : LoopOk Try.prog (mkLM D_q44_0 S_q44_0_w) body_q44_0 := loop_ok2 mix layD_ok cons_q44 (by kernel_rfl) (loops_mem loops_q44_0 (trivial)) S_q44_0_ok fun _ _ h => h
theorem loops_q44 : loopsIn code_q44 = [body_q44_0] := by kernel_rfl
theorem m_q44 : Meets Try.prog 39 c_q44 := meets_of (E := E_q44) (code := code_q44) mix layD_ok cons_q44 Try.func39 (by kernel_rfl) sg_q44 (by kernel_rfl) (fun y => (y.1, y.2.1)) c_q44.out (fun _ => rfl) c_q44.run (fun x => by kernel_rfl) (by kernel_rfl) (loops_mem loops_q44 (⟨⟨_, by kernel_rfl, l_q44_0⟩, trivial⟩))
noncomputable def sg_q45 : Sig := ⟨[(true, [.d (.int .i64), .d (.int .i64), .dp 191]), (false, [.d (.int .i64)])], [(191, .deep .rat)], false, [(false, [.d (.int .i64)])], [(191, .deep .rat)]⟩
noncomputable def c_q45 : Con := ⟨sg_q45, Int × List Rt, fun x => M_laws_markMatrix_md (⟨x.1, x.2.1, x.2.2.2.1⟩ : Mx) x.2.2.1, fun r => (r.1, r.2, ())⟩
noncomputable def code_q45 : Code := Try.f13.body.getD .skip
noncomputable def E_q45 : Env := ⟨layD, [(39, c_q44)], [], []⟩
theorem cons_q45 : ConsOk Try.prog E_q45.cons := consOk_cons m_q44 (callable_of Try.func39 (by kernel_rfl)) (consOk_nil)
theorem loops_q45 : loopsIn code_q45 = [] := by kernel_rfl
theorem m_q45 : Meets Try.prog 13 c_q45 := meets_of (E := E_q45) (code := code_q45) mix layD_ok cons_q45 Try.func13 (by kernel_rfl) sg_q45 (by kernel_rfl) (fun y => (y.1, y.2.1)) c_q45.out (fun _ => rfl) c_q45.run (fun x => by kernel_rfl) (by kernel_rfl) (loops_mem loops_q45 (trivial))
noncomputable def sg_q46 : Sig := ⟨[(false, [.d (.sl .int)]), (false, [.d (.int .i64)])], [], false, [(false, [.d (.int .i64)])], []⟩
noncomputable def c_q46 : Con := ⟨sg_q46, Int, fun x => M_laws_heldIntS x.1 x.2.1, fun r => (r, ())⟩
noncomputable def code_q46 : Code := Try.f67.body.getD .skip
noncomputable def body_q46_0 : Code := (loopsIn code_q46).getD 0 .skip
noncomputable def D_q46_0 : LoopD := ⟨⟨mkSlots [(0, false, [.d (.sl .int)]), (1, false, [.d (.int .i64)]), (5, false, [.d (.int .i64)])] 21 0, []⟩, [], [(.ret, ⟨mkSlots [(4, false, [.d (.int .i64)])] 21 0, []⟩, []), (.exit 0, ⟨mkSlots [(1, false, [.d (.int .i64)])] 21 0, []⟩, [])]⟩
noncomputable def S_q46_0_w (x : Tys D_q46_0.head.ks) : Option (OutT D_q46_0.outs) := @whileO ((List Int) × Int × Int × Unit) ((Int × Unit) ⊕ (Int × Unit)) S_laws_heldIntS_0 x
noncomputable def E_q46 : Env := ⟨layD, [], [(2, mkLM D_q46_0 S_q46_0_w)], []⟩
theorem cons_q46 : ConsOk Try.prog E_q46.cons := consOk_nil
theorem S_q46_0_ok (x : Tys D_q46_0.head.ks) : stepL E_q46 D_q46_0 body_q46_0 x = S_laws_heldIntS_0 x := by kernel_rfl
theorem loops_q46_0 : loopsIn body_q46_0 = [] := by kernel_rfl
theorem l_q46_0 : LoopOk Try.prog (mkLM D_q46_0 S_q46_0_w) body_q46_0 := loop_ok2 mix layD_ok cons_q46 (by kernel_rfl) (loops_mem loops_q46_0 (trivial)) S_q46_0_ok fun _ _ h => h
theorem loops_q46 : loopsIn code_q46 = [body_q46_0] := by kernel_rfl
theorem m_q46 : Meets Try.prog 67 c_q46 := meets_of (E := E_q46) (code := code_q46) mix layD_ok cons_q46 Try.func67 (by kernel_rfl) sg_q46 (by kernel_rfl) (fun y => y.1) c_q46.out (fun _ => rfl) c_q46.run (fun x => by kernel_rfl) (by kernel_rfl) (loops_mem loops_q46 (⟨⟨_, by kernel_rfl, l_q46_0⟩, trivial⟩))
noncomputable def sg_q47 : Sig := ⟨[(false, [.d (.sl .rat)]), (false, [.d (.int .i64)])], [], false, [(false, [.d (.int .i64)])], []⟩
noncomputable def c_q47 : Con := ⟨sg_q47, Int, fun x => M_laws_heldRatS x.1 x.2.1, fun r => (r, ())⟩
noncomputable def code_q47 : Code := Try.f40.body.getD .skip
noncomputable def body_q47_0 : Code := (loopsIn code_q47).getD 0 .skip
noncomputable def D_q47_0 : LoopD := ⟨⟨mkSlots [(0, false, [.d (.sl .rat)]), (1, false, [.d (.int .i64)]), (5, false, [.d (.int .i64)])] 44 0, []⟩, [], [(.ret, ⟨mkSlots [(4, false, [.d (.int .i64)])] 44 0, []⟩, []), (.exit 0, ⟨mkSlots [(1, false, [.d (.int .i64)])] 44 0, []⟩, [])]⟩
noncomputable def S_q47_0_w (x : Tys D_q47_0.head.ks) : Option (OutT D_q47_0.outs) := @whileO ((List Rt) × Int × Int × Unit) ((Int × Unit) ⊕ (Int × Unit)) S_laws_heldRatS_0 x
noncomputable def E_q47 : Env := ⟨layD, [(67, c_q46)], [(2, mkLM D_q47_0 S_q47_0_w)], []⟩
theorem cons_q47 : ConsOk Try.prog E_q47.cons := consOk_cons m_q46 (callable_of Try.func67 (by kernel_rfl)) (consOk_nil)
theorem S_q47_0_ok (x : Tys D_q47_0.head.ks) : stepL E_q47 D_q47_0 body_q47_0 x = S_laws_heldRatS_0 x := by kernel_rfl
theorem loops_q47_0 : loopsIn body_q47_0 = [] := by kernel_rfl
theorem l_q47_0 : LoopOk Try.prog (mkLM D_q47_0 S_q47_0_w) body_q47_0 := loop_ok2 mix layD_ok cons_q47 (by kernel_rfl) (loops_mem loops_q47_0 (trivial)) S_q47_0_ok fun _ _ h => h
theorem loops_q47 : loopsIn code_q47 = [body_q47_0] := by kernel_rfl
theorem m_q47 : Meets Try.prog 40 c_q47 := meets_of (E := E_q47) (code := code_q47) mix layD_ok cons_q47 Try.func40 (by kernel_rfl) sg_q47 (by kernel_rfl) (fun y => y.1) c_q47.out (fun _ => rfl) c_q47.run (fun x => by kernel_rfl) (by kernel_rfl) (loops_mem loops_q47 (⟨⟨_, by kernel_rfl, l_q47_0⟩, trivial⟩))
noncomputable def sg_q48 : Sig := ⟨[(true, [.d (.int .i64), .d (.int .i64), .d (.sl .rat)]), (false, [.d (.int .i64)])], [], false, [(false, [.d (.int .i64)])], []⟩
noncomputable def c_q48 : Con := ⟨sg_q48, Int, fun x => M_laws_heldMatrix (⟨x.1, x.2.1, x.2.2.1⟩ : Mx) x.2.2.2.1, fun r => (r, ())⟩
noncomputable def code_q48 : Code := Try.f14.body.getD .skip
noncomputable def E_q48 : Env := ⟨layD, [(40, c_q47)], [], []⟩
theorem cons_q48 : ConsOk Try.prog E_q48.cons := consOk_cons m_q47 (callable_of Try.func40 (by kernel_rfl)) (consOk_nil)
theorem loops_q48 : loopsIn code_q48 = [] := by kernel_rfl
theorem m_q48 : Meets Try.prog 14 c_q48 := meets_of (E := E_q48) (code := code_q48) mix layD_ok cons_q48 Try.func14 (by kernel_rfl) sg_q48 (by kernel_rfl) (fun y => y.1) c_q48.out (fun _ => rfl) c_q48.run (fun x => by kernel_rfl) (by kernel_rfl) (loops_mem loops_q48 (trivial))
noncomputable def sg_q49 : Sig := ⟨[(false, [.d (.int .i64)])], [], false, [(false, [.d (.bool)])], []⟩
noncomputable def c_q49 : Con := ⟨sg_q49, Bool, fun x => M_laws_FnExactIdentityMatrix x.1, fun r => (r, ())⟩
noncomputable def code_q49 : Code := Try.f3.body.getD .skip
noncomputable def E_q49 : Env := ⟨layD, [(10, c_q12), (11, c_q37), (12, c_q42), (13, c_q45), (14, c_q48)], [], []⟩
theorem cons_q49 : ConsOk Try.prog E_q49.cons := consOk_cons m_q12 (callable_of Try.func10 (by kernel_rfl)) (consOk_cons m_q37 (callable_of Try.func11 (by kernel_rfl)) (consOk_cons m_q42 (callable_of Try.func12 (by kernel_rfl)) (consOk_cons m_q45 (callable_of Try.func13 (by kernel_rfl)) (consOk_cons m_q48 (callable_of Try.func14 (by kernel_rfl)) (consOk_nil)))))
theorem loops_q49 : loopsIn code_q49 = [] := by kernel_rfl
theorem m_q49 : Meets Try.prog 3 c_q49 := meets_of (E := E_q49) (code := code_q49) mix layD_ok cons_q49 Try.func3 (by kernel_rfl) sg_q49 (by kernel_rfl) (fun y => y.1) c_q49.out (fun _ => rfl) c_q49.run (fun x => by kernel_rfl) (by kernel_rfl) (loops_mem loops_q49 (trivial))
end Go.Proofs.Ytakkbpieoceodaa.WIdentityMatrix
