/-
  Own work: part 8 of the texts that the proof of the given statement leans on.
-/
import Derived.Test.YtgimphipdnieaaaProg
import Derived.Test.YtgimphipdnieaaaZNullP00
open Go Go.Di Go.Proofs
namespace Go.Proofs.Ytgimphipdnieaaa.WNull
noncomputable def lay : List (TypeId × TI) := [
  (3, ⟨false, [.d (.int .i64 0)], [], none, some (.int .i64), false, false⟩),
  (4, ⟨false, [.d (.bool false)], [], none, some .bool, false, false⟩),
  (5, ⟨false, [.d (.int .u8 0)], [], none, some (.int .u8), false, false⟩),
  (22, ⟨false, [.mt], [], some .byte, none, false, false⟩),
  (23, ⟨false, [.mt], [], some .rat, none, false, false⟩),
  (25, ⟨true, [.d (.int .i64 0), .d (.int .i64 0), .mt], [(0, 1, false), (1, 1, false), (2, 1, false)], none, none, true, false⟩),
  (27, ⟨false, [.mt], [], some .rats, none, false, false⟩),
  (30, ⟨false, [.mt], [], some .int, none, false, false⟩),
  (51, ⟨true, [.d (.bool false), .mt], [(0, 1, false), (1, 1, false)], none, none, true, false⟩),
  (53, ⟨true, [.d (.bool false), .mt, .mt], [(0, 2, true), (2, 1, false)], none, none, true, false⟩),
  (59, ⟨true, [.d (.int .i64 0), .d (.int .i64 0), .mt, .mt, .mt], [(0, 3, true), (3, 1, false), (4, 1, false)], none, none, true, false⟩),
  (87, ⟨true, [.mt, .d (.int .i64 0), .d (.int .i64 0)], [(0, 1, false), (1, 1, false), (2, 1, false)], none, none, true, false⟩)]
noncomputable def layD : List (TypeId × TI) := [
  (3, ⟨false, [.d (.int .i64 0)], [], none, some (.int .i64), false, false⟩),
  (4, ⟨false, [.d (.bool false)], [], none, some .bool, false, false⟩),
  (5, ⟨false, [.d (.int .u8 0)], [], none, some (.int .u8), false, false⟩),
  (22, ⟨false, [.mt], [], some .byte, none, false, false⟩),
  (23, ⟨false, [.mt], [], some .rat, none, false, true⟩),
  (25, ⟨true, [.d (.int .i64 0), .d (.int .i64 0), .mt], [(0, 1, false), (1, 1, false), (2, 1, false)], none, none, true, false⟩),
  (27, ⟨false, [.mt], [], some .rats, none, false, false⟩),
  (30, ⟨false, [.mt], [], some .int, none, false, false⟩),
  (51, ⟨true, [.d (.bool false), .mt], [(0, 1, false), (1, 1, false)], none, none, true, false⟩),
  (53, ⟨true, [.d (.bool false), .mt, .mt], [(0, 2, true), (2, 1, false)], none, none, true, false⟩),
  (59, ⟨true, [.d (.int .i64 0), .d (.int .i64 0), .mt, .mt, .mt], [(0, 3, true), (3, 1, false), (4, 1, false)], none, none, true, false⟩),
  (87, ⟨true, [.mt, .d (.int .i64 0), .d (.int .i64 0)], [(0, 1, false), (1, 1, false), (2, 1, false)], none, none, true, false⟩)]
theorem lay_ok : LayOk Try.prog lay := layOk_ok (by kernel_rfl)
theorem layD_ok : LayOk Try.prog layD := layOk_ok (by kernel_rfl)
theorem mix : Try.prog.follows .mixedOrders = true := by kernel_rfl
noncomputable def sg_q1 : Sig := ⟨[(false, [.d (.sl .byte)])], [], false, [(false, [.lp 0 0])], [(0, .box [.d (.sl .byte), .d (.int .i64), .d (.int .i64)])]⟩
noncomputable def c_q1 : Con := ⟨sg_q1, Cur, fun x => M_spec_l01New x.1, fun r => (r.b, r.i, r.h, ())⟩
noncomputable def code_q1 : Code := Try.f32.body.getD .skip
noncomputable def body_q1_0 : Code := (loopsIn code_q1).getD 0 .skip
noncomputable def D_q1_0 : LoopD := ⟨⟨mkSlots [(0, false, [.d (.sl .byte)]), (3, false, [.d (.int .i64)]), (4, false, [.d (.int .i64)])] 32 0, []⟩, [], [(.exit 0, ⟨mkSlots [(0, false, [.d (.sl .byte)]), (3, false, [.d (.int .i64)])] 32 0, []⟩, [])]⟩
noncomputable def S_q1_0_w (x : Tys D_q1_0.head.ks) : Option (OutT D_q1_0.outs) := @whileO ((List Int) × Int × Int × Unit) ((List Int) × Int × Unit) S_spec_l01New_0 x
noncomputable def E_q1 : Env := ⟨layD, [], [(3, mkLM D_q1_0 S_q1_0_w)], []⟩
theorem cons_q1 : ConsOk Try.prog E_q1.cons := consOk_nil
theorem S_q1_0_ok (x : Tys D_q1_0.head.ks) : stepL E_q1 D_q1_0 body_q1_0 x = S_spec_l01New_0 x := by kernel_rfl
theorem loops_q1_0 : loopsIn body_q1_0 = [] := by kernel_rfl
theorem l_q1_0 : LoopOk Try.prog (mkLM D_q1_0 S_q1_0_w) body_q1_0 := loop_ok2 mix layD_ok cons_q1 (by kernel_rfl) (loops_mem loops_q1_0 (trivial)) S_q1_0_ok fun _ _ h => h
theorem loops_q1 : loopsIn code_q1 = [body_q1_0] := by kernel_rfl
theorem m_q1 : Meets Try.prog 32 c_q1 := meets_of (E := E_q1) (code := code_q1) mix layD_ok cons_q1 Try.func32 (by kernel_rfl) sg_q1 (by kernel_rfl) (fun y => (⟨y.1, y.2.1, y.2.2.1⟩ : Cur)) c_q1.out (fun _ => rfl) c_q1.run (fun x => by kernel_rfl) (by kernel_rfl) (loops_mem loops_q1 (⟨⟨_, by kernel_rfl, l_q1_0⟩, trivial⟩))
noncomputable def sg_q2 : Sig := ⟨[(false, [.lp 63 0])], [(63, .box [.d (.sl .byte), .d (.int .i64), .d (.int .i64)])], false, [(false, [.d (.int .i64)])], [(63, .box [.d (.sl .byte), .d (.int .i64), .d (.int .i64)])]⟩
noncomputable def c_q2 : Con := ⟨sg_q2, Int × Cur, fun x => M_spec_l01Byte (⟨x.1, x.2.1, x.2.2.1⟩ : Cur), fun r => (r.1, r.2.b, r.2.i, r.2.h, ())⟩
noncomputable def code_q2 : Code := Try.f33.body.getD .skip
noncomputable def E_q2 : Env := ⟨layD, [], [], [(2, [(0, []), (1, []), (2, []), (3, []), (4, []), (5, []), (6, []), (7, []), (8, []), (9, []), (10, []), (11, []), (12, [11, 0, 1, 2, 3, 4, 5, 6, 7, 8, 9, 10])]), (3, [(0, []), (1, []), (2, []), (3, []), (4, []), (5, []), (6, []), (7, []), (8, []), (9, [])]), (4, [(0, []), (1, []), (2, []), (3, []), (4, []), (5, []), (6, []), (7, []), (8, []), (9, []), (10, []), (11, []), (12, []), (13, []), (14, [13, 0, 1, 2, 3, 4, 5, 6, 7, 8, 9, 10, 11, 12])])]⟩
theorem cons_q2 : ConsOk Try.prog E_q2.cons := consOk_nil
theorem loops_q2 : loopsIn code_q2 = [] := by kernel_rfl
theorem m_q2 : Meets Try.prog 33 c_q2 := meets_of (E := E_q2) (code := code_q2) mix layD_ok cons_q2 Try.func33 (by kernel_rfl) sg_q2 (by kernel_rfl) (fun y => (y.1, (⟨y.2.1, y.2.2.1, y.2.2.2.1⟩ : Cur))) c_q2.out (fun _ => rfl) c_q2.run (fun x => by kernel_rfl) (by kernel_rfl) (loops_mem loops_q2 (trivial))
noncomputable def sg_q3 : Sig := ⟨[(false, [.d (.sl .byte)]), (false, [.d (.int .i64)])], [], false, [(false, [.lp 0 0])], [(0, .box [.d (.sl .byte), .d (.int .i64), .d (.int .i64)])]⟩
noncomputable def c_q3 : Con := ⟨sg_q3, Cur, fun x => M_spec_l30New x.1 x.2.1, fun r => (r.b, r.i, r.h, ())⟩
noncomputable def code_q3 : Code := Try.f17.body.getD .skip
noncomputable def body_q3_0 : Code := (loopsIn code_q3).getD 0 .skip
noncomputable def D_q3_0 : LoopD := ⟨⟨mkSlots [(1, false, [.d (.int .i64)]), (5, false, [.lp 512 0]), (6, false, [.d (.int .i64)])] 17 0, [(512, .box [.d (.sl .byte), .d (.int .i64), .d (.int .i64)])]⟩, [], [(.exit 0, ⟨mkSlots [(5, false, [.lp 512 0])] 17 0, [(512, .box [.d (.sl .byte), .d (.int .i64), .d (.int .i64)])]⟩, [])]⟩
noncomputable def S_q3_0_w (x : Tys D_q3_0.head.ks) : Option (OutT D_q3_0.outs) := @whileO (Int × Int × (List Int) × Int × Int × Unit) ((List Int) × Int × Int × Unit) S_spec_l30New_0 x
noncomputable def E_q3 : Env := ⟨layD, [(32, c_q1), (33, c_q2)], [(3, mkLM D_q3_0 S_q3_0_w)], []⟩
theorem cons_q3 : ConsOk Try.prog E_q3.cons := consOk_cons m_q1 (callable_of Try.func32 (by kernel_rfl)) (consOk_cons m_q2 (callable_of Try.func33 (by kernel_rfl)) (consOk_nil))
theorem S_q3_0_ok (x : Tys D_q3_0.head.ks) : stepL E_q3 D_q3_0 body_q3_0 x = S_spec_l30New_0 x := by kernel_rfl
theorem loops_q3_0 : loopsIn body_q3_0 = [] := by kernel_rfl
theorem l_q3_0 : LoopOk Try.prog (mkLM D_q3_0 S_q3_0_w) body_q3_0 := loop_ok2 mix layD_ok cons_q3 (by kernel_rfl) (loops_mem loops_q3_0 (trivial)) S_q3_0_ok fun _ _ h => h
theorem loops_q3 : loopsIn code_q3 = [body_q3_0] := by kernel_rfl
theorem m_q3 : Meets Try.prog 17 c_q3 := meets_of (E := E_q3) (code := code_q3) mix layD_ok cons_q3 Try.func17 (by kernel_rfl) sg_q3 (by kernel_rfl) (fun y => (⟨y.1, y.2.1, y.2.2.1⟩ : Cur)) c_q3.out (fun _ => rfl) c_q3.run (fun x => by kernel_rfl) (by kernel_rfl) (loops_mem loops_q3 (⟨⟨_, by kernel_rfl, l_q3_0⟩, trivial⟩))
noncomputable def sg_q4 : Sig := ⟨[(false, [.lp 63 0]), (false, [.d (.int .i64)])], [(63, .box [.d (.sl .byte), .d (.int .i64), .d (.int .i64)])], false, [(false, [.d (.int .i64)])], [(63, .box [.d (.sl .byte), .d (.int .i64), .d (.int .i64)])]⟩
noncomputable def c_q4 : Con := ⟨sg_q4, Int × Cur, fun x => M_spec_l01Below (⟨x.2.1, x.2.2.1, x.2.2.2.1⟩ : Cur) x.1, fun r => (r.1, r.2.b, r.2.i, r.2.h, ())⟩
noncomputable def code_q4 : Code := Try.f85.body.getD .skip
noncomputable def E_q4 : Env := ⟨layD, [(33, c_q2)], [], []⟩
theorem cons_q4 : ConsOk Try.prog E_q4.cons := consOk_cons m_q2 (callable_of Try.func33 (by kernel_rfl)) (consOk_nil)
theorem loops_q4 : loopsIn code_q4 = [] := by kernel_rfl
theorem m_q4 : Meets Try.prog 85 c_q4 := meets_of (E := E_q4) (code := code_q4) mix layD_ok cons_q4 Try.func85 (by kernel_rfl) sg_q4 (by kernel_rfl) (fun y => (y.1, (⟨y.2.1, y.2.2.1, y.2.2.2.1⟩ : Cur))) c_q4.out (fun _ => rfl) c_q4.run (fun x => by kernel_rfl) (by kernel_rfl) (loops_mem loops_q4 (trivial))
noncomputable def sg_q5 : Sig := ⟨[(false, [.lp 63 0]), (false, [.d (.int .i64)])], [(63, .box [.d (.sl .byte), .d (.int .i64), .d (.int .i64)])], false, [(false, [.d (.bool)])], [(63, .box [.d (.sl .byte), .d (.int .i64), .d (.int .i64)])]⟩
noncomputable def c_q5 : Con := ⟨sg_q5, Bool × Cur, fun x => M_spec_l01Once (⟨x.2.1, x.2.2.1, x.2.2.2.1⟩ : Cur) x.1, fun r => (r.1, r.2.b, r.2.i, r.2.h, ())⟩
noncomputable def code_q5 : Code := Try.f83.body.getD .skip
noncomputable def E_q5 : Env := ⟨layD, [(85, c_q4)], [], []⟩
theorem cons_q5 : ConsOk Try.prog E_q5.cons := consOk_cons m_q4 (callable_of Try.func85 (by kernel_rfl)) (consOk_nil)
theorem loops_q5 : loopsIn code_q5 = [] := by kernel_rfl
theorem m_q5 : Meets Try.prog 83 c_q5 := meets_of (E := E_q5) (code := code_q5) mix layD_ok cons_q5 Try.func83 (by kernel_rfl) sg_q5 (by kernel_rfl) (fun y => (y.1, (⟨y.2.1, y.2.2.1, y.2.2.2.1⟩ : Cur))) c_q5.out (fun _ => rfl) c_q5.run (fun x => by kernel_rfl) (by kernel_rfl) (loops_mem loops_q5 (trivial))
noncomputable def sg_q6 : Sig := ⟨[(false, [.d (.sl .int)])], [], false, [(false, [.d (.sl .int)])], []⟩
noncomputable def c_q6 : Con := ⟨sg_q6, List Int, fun x => M_spec_l02Trim x.1, fun r => (r, ())⟩
noncomputable def code_q6 : Code := Try.f112.body.getD .skip
noncomputable def body_q6_0 : Code := (loopsIn code_q6).getD 0 .skip
noncomputable def D_q6_0 : LoopD := ⟨⟨mkSlots [(0, false, [.d (.sl .int)]), (3, false, [.d (.int .i64)])] 21 0, []⟩, [], [(.exit 0, ⟨mkSlots [(0, false, [.d (.sl .int)]), (3, false, [.d (.int .i64)])] 21 0, []⟩, [])]⟩
noncomputable def S_q6_0_w (x : Tys D_q6_0.head.ks) : Option (OutT D_q6_0.outs) := @whileO ((List Int) × Int × Unit) ((List Int) × Int × Unit) S_spec_l02Trim_0 x
noncomputable def E_q6 : Env := ⟨layD, [], [(2, mkLM D_q6_0 S_q6_0_w)], []⟩
theorem cons_q6 : ConsOk Try.prog E_q6.cons := consOk_nil
theorem S_q6_0_ok (x : Tys D_q6_0.head.ks) : stepL E_q6 D_q6_0 body_q6_0 x = S_spec_l02Trim_0 x := by kernel_rfl
theorem loops_q6_0 : loopsIn body_q6_0 = [] := by kernel_rfl
theorem l_q6_0 : LoopOk Try.prog (mkLM D_q6_0 S_q6_0_w) body_q6_0 := loop_ok2 mix layD_ok cons_q6 (by kernel_rfl) (loops_mem loops_q6_0 (trivial)) S_q6_0_ok fun _ _ h => h
theorem loops_q6 : loopsIn code_q6 = [body_q6_0] := by kernel_rfl
theorem m_q6 : Meets Try.prog 112 c_q6 := meets_of (E := E_q6) (code := code_q6) mix layD_ok cons_q6 Try.func112 (by kernel_rfl) sg_q6 (by kernel_rfl) (fun y => y.1) c_q6.out (fun _ => rfl) c_q6.run (fun x => by kernel_rfl) (by kernel_rfl) (loops_mem loops_q6 (⟨⟨_, by kernel_rfl, l_q6_0⟩, trivial⟩))
noncomputable def sg_q7 : Sig := ⟨[(false, [.d (.sl .int)])], [], false, [(false, [.d (.sl .int)])], []⟩
noncomputable def c_q7 : Con := ⟨sg_q7, List Int, fun x => M_spec_l02Cap x.1, fun r => (r, ())⟩
noncomputable def code_q7 : Code := Try.f119.body.getD .skip
noncomputable def E_q7 : Env := ⟨layD, [(112, c_q6)], [], []⟩
theorem cons_q7 : ConsOk Try.prog E_q7.cons := consOk_cons m_q6 (callable_of Try.func112 (by kernel_rfl)) (consOk_nil)
theorem loops_q7 : loopsIn code_q7 = [] := by kernel_rfl
theorem m_q7 : Meets Try.prog 119 c_q7 := meets_of (E := E_q7) (code := code_q7) mix layD_ok cons_q7 Try.func119 (by kernel_rfl) sg_q7 (by kernel_rfl) (fun y => y.1) c_q7.out (fun _ => rfl) c_q7.run (fun x => by kernel_rfl) (by kernel_rfl) (loops_mem loops_q7 (trivial))
noncomputable def sg_q8 : Sig := ⟨[(false, [.d (.bool)]), (false, [.d (.sl .int)])], [], false, [(true, [.d (.bool), .own 0])], [(0, .arr false .int)]⟩
noncomputable def c_q8 : Con := ⟨sg_q8, Bg, fun x => M_spec_l03Make x.1 x.2.1, fun r => (r.neg, r.mag, ())⟩
noncomputable def code_q8 : Code := Try.f110.body.getD .skip
noncomputable def E_q8 : Env := ⟨layD, [(119, c_q7)], [], []⟩
theorem cons_q8 : ConsOk Try.prog E_q8.cons := consOk_cons m_q7 (callable_of Try.func119 (by kernel_rfl)) (consOk_nil)
theorem loops_q8 : loopsIn code_q8 = [] := by kernel_rfl
theorem m_q8 : Meets Try.prog 110 c_q8 := meets_of (E := E_q8) (code := code_q8) mix layD_ok cons_q8 Try.func110 (by kernel_rfl) sg_q8 (by kernel_rfl) (fun y => (⟨y.1, y.2.1⟩ : Bg)) c_q8.out (fun _ => rfl) c_q8.run (fun x => by kernel_rfl) (by kernel_rfl) (loops_mem loops_q8 (trivial))
noncomputable def sg_q9 : Sig := ⟨[(false, [.d (.int .i64)])], [], false, [(false, [.own 0])], [(0, .arr false .int)]⟩
noncomputable def c_q9 : Con := ⟨sg_q9, List Int, fun x => M_spec_NatOf x.1, fun r => (r, ())⟩
noncomputable def code_q9 : Code := Try.f111.body.getD .skip
noncomputable def body_q9_0 : Code := (loopsIn code_q9).getD 0 .skip
noncomputable def D_q9_0 : LoopD := ⟨⟨mkSlots [(0, false, [.d (.int .i64)]), (3, false, [.own 1024])] 15 0, [(1024, .arr false .int)]⟩, [(.slot 3 0, 1024, .int)], [(.exit 0, ⟨mkSlots [(3, false, [.own 1024])] 15 0, [(1024, .arr false .int)]⟩, [(.slot 3 0, 1024, .int)])]⟩
noncomputable def S_q9_0_w (x : Tys D_q9_0.head.ks) : Option (OutT D_q9_0.outs) := @whileO (Int × (List Int) × Unit) ((List Int) × Unit) S_spec_NatOf_0 x
noncomputable def E_q9 : Env := ⟨layD, [], [(2, mkLM D_q9_0 S_q9_0_w)], []⟩
theorem cons_q9 : ConsOk Try.prog E_q9.cons := consOk_nil
theorem S_q9_0_ok (x : Tys D_q9_0.head.ks) : stepL E_q9 D_q9_0 body_q9_0 x = S_spec_NatOf_0 x := by kernel_rfl
theorem loops_q9_0 : loopsIn body_q9_0 = [] := by kernel_rfl
theorem l_q9_0 : LoopOk Try.prog (mkLM D_q9_0 S_q9_0_w) body_q9_0 := loop_ok2 mix layD_ok cons_q9 (by kernel_rfl) (loops_mem loops_q9_0 (trivial)) S_q9_0_ok fun _ _ h => h
theorem loops_q9 : loopsIn code_q9 = [body_q9_0] := by kernel_rfl
theorem m_q9 : Meets Try.prog 111 c_q9 := meets_of (E := E_q9) (code := code_q9) mix layD_ok cons_q9 Try.func111 (by kernel_rfl) sg_q9 (by kernel_rfl) (fun y => y.1) c_q9.out (fun _ => rfl) c_q9.run (fun x => by kernel_rfl) (by kernel_rfl) (loops_mem loops_q9 (⟨⟨_, by kernel_rfl, l_q9_0⟩, trivial⟩))
noncomputable def sg_q10 : Sig := ⟨[(false, [.d (.int .i64)])], [], false, [(true, [.d (.bool), .own 0])], [(0, .arr false .int)]⟩
noncomputable def c_q10 : Con := ⟨sg_q10, Bg, fun x => M_spec_BigIntOf x.1, fun r => (r.neg, r.mag, ())⟩
noncomputable def code_q10 : Code := Try.f96.body.getD .skip
noncomputable def E_q10 : Env := ⟨layD, [(110, c_q8), (111, c_q9)], [], []⟩
theorem cons_q10 : ConsOk Try.prog E_q10.cons := consOk_cons m_q8 (callable_of Try.func110 (by kernel_rfl)) (consOk_cons m_q9 (callable_of Try.func111 (by kernel_rfl)) (consOk_nil))
theorem loops_q10 : loopsIn code_q10 = [] := by kernel_rfl
theorem m_q10 : Meets Try.prog 96 c_q10 := meets_of (E := E_q10) (code := code_q10) mix layD_ok cons_q10 Try.func96 (by kernel_rfl) sg_q10 (by kernel_rfl) (fun y => (⟨y.1, y.2.1⟩ : Bg)) c_q10.out (fun _ => rfl) c_q10.run (fun x => by kernel_rfl) (by kernel_rfl) (loops_mem loops_q10 (trivial))
noncomputable def sg_q11 : Sig := ⟨[(false, [.d (.int .i64)]), (false, [.d (.int .i64)]), (false, [.d (.int .i64)])], [], false, [(false, [.d (.bool)])], []⟩
noncomputable def c_q11 : Con := ⟨sg_q11, Bool, fun x => M_spec_l01In x.1 x.2.1 x.2.2.1, fun r => (r, ())⟩
noncomputable def code_q11 : Code := Try.f70.body.getD .skip
noncomputable def E_q11 : Env := ⟨layD, [], [], []⟩
theorem cons_q11 : ConsOk Try.prog E_q11.cons := consOk_nil
theorem loops_q11 : loopsIn code_q11 = [] := by kernel_rfl
theorem m_q11 : Meets Try.prog 70 c_q11 := meets_of (E := E_q11) (code := code_q11) mix layD_ok cons_q11 Try.func70 (by kernel_rfl) sg_q11 (by kernel_rfl) (fun y => y.1) c_q11.out (fun _ => rfl) c_q11.run (fun x => by kernel_rfl) (by kernel_rfl) (loops_mem loops_q11 (trivial))
noncomputable def sg_q12 : Sig := ⟨[(false, [.d (.sl .int)])], [], false, [(false, [.d (.bool)])], []⟩
noncomputable def c_q12 : Con := ⟨sg_q12, Bool, fun x => M_spec_NatOk x.1, fun r => (r, ())⟩
noncomputable def code_q12 : Code := Try.f92.body.getD .skip
noncomputable def body_q12_0 : Code := (loopsIn code_q12).getD 0 .skip
noncomputable def D_q12_0 : LoopD := ⟨⟨mkSlots [(0, false, [.d (.sl .int)]), (5, false, [.d (.sl .int)]), (6, false, [.d (.int .i64)]), (7, false, [.d (.int .i64)])] 32 0, []⟩, [], [(.ret, ⟨mkSlots [(2, false, [.d (.bool)])] 32 0, []⟩, []), (.exit 0, ⟨mkSlots [(0, false, [.d (.sl .int)])] 32 0, []⟩, [])]⟩
noncomputable def S_q12_0_w (x : Tys D_q12_0.head.ks) : Option (OutT D_q12_0.outs) := @whileO ((List Int) × (List Int) × Int × Int × Unit) ((Bool × Unit) ⊕ ((List Int) × Unit)) S_spec_NatOk_0 x
noncomputable def E_q12 : Env := ⟨layD, [(70, c_q11)], [(2, mkLM D_q12_0 S_q12_0_w)], []⟩
theorem cons_q12 : ConsOk Try.prog E_q12.cons := consOk_cons m_q11 (callable_of Try.func70 (by kernel_rfl)) (consOk_nil)
theorem S_q12_0_ok (x : Tys D_q12_0.head.ks) : stepL E_q12 D_q12_0 body_q12_0 x = S_spec_NatOk_0 x := by kernel_rfl
theorem loops_q12_0 : loopsIn body_q12_0 = [] := by kernel_rfl
theorem l_q12_0 : LoopOk Try.prog (mkLM D_q12_0 S_q12_0_w) body_q12_0 := loop_ok2 mix layD_ok cons_q12 (by kernel_rfl) (loops_mem loops_q12_0 (trivial)) S_q12_0_ok fun _ _ h => h
theorem loops_q12 : loopsIn code_q12 = [body_q12_0] := by kernel_rfl
theorem m_q12 : Meets Try.prog 92 c_q12 := meets_of (E := E_q12) (code := code_q12) mix layD_ok cons_q12 Try.func92 (by kernel_rfl) sg_q12 (by kernel_rfl) (fun y => y.1) c_q12.out (fun _ => rfl) c_q12.run (fun x => by kernel_rfl) (by kernel_rfl) (loops_mem loops_q12 (⟨⟨_, by kernel_rfl, l_q12_0⟩, trivial⟩))
noncomputable def sg_q13 : Sig := ⟨[(true, [.d (.bool), .d (.sl .int)])], [], false, [(false, [.d (.bool)])], []⟩
noncomputable def c_q13 : Con := ⟨sg_q13, Bool, fun x => M_spec_BigIntOk (⟨x.1, x.2.1⟩ : Bg), fun r => (r, ())⟩
noncomputable def code_q13 : Code := Try.f91.body.getD .skip
noncomputable def E_q13 : Env := ⟨layD, [(92, c_q12)], [], []⟩
theorem cons_q13 : ConsOk Try.prog E_q13.cons := consOk_cons m_q12 (callable_of Try.func92 (by kernel_rfl)) (consOk_nil)
theorem loops_q13 : loopsIn code_q13 = [] := by kernel_rfl
theorem m_q13 : Meets Try.prog 91 c_q13 := meets_of (E := E_q13) (code := code_q13) mix layD_ok cons_q13 Try.func91 (by kernel_rfl) sg_q13 (by kernel_rfl) (fun y => y.1) c_q13.out (fun _ => rfl) c_q13.run (fun x => by kernel_rfl) (by kernel_rfl) (loops_mem loops_q13 (trivial))
noncomputable def sg_q14 : Sig := ⟨[(false, [.d (.sl .int)])], [], false, [(false, [.d (.bool)])], []⟩
noncomputable def c_q14 : Con := ⟨sg_q14, Bool, fun x => M_spec_l04One x.1, fun r => (r, ())⟩
noncomputable def code_q14 : Code := Try.f93.body.getD .skip
noncomputable def E_q14 : Env := ⟨layD, [], [], []⟩
theorem cons_q14 : ConsOk Try.prog E_q14.cons := consOk_nil
theorem loops_q14 : loopsIn code_q14 = [] := by kernel_rfl
theorem m_q14 : Meets Try.prog 93 c_q14 := meets_of (E := E_q14) (code := code_q14) mix layD_ok cons_q14 Try.func93 (by kernel_rfl) sg_q14 (by kernel_rfl) (fun y => y.1) c_q14.out (fun _ => rfl) c_q14.run (fun x => by kernel_rfl) (by kernel_rfl) (loops_mem loops_q14 (trivial))
noncomputable def sg_q15 : Sig := ⟨[(false, [.d (.sl .int)]), (false, [.d (.sl .int)])], [], false, [(false, [.d (.int .i64)])], []⟩
noncomputable def c_q15 : Con := ⟨sg_q15, Int, fun x => M_spec_l02Cmp x.1 x.2.1, fun r => (r, ())⟩
noncomputable def code_q15 : Code := Try.f115.body.getD .skip
noncomputable def body_q15_0 : Code := (loopsIn code_q15).getD 0 .skip
noncomputable def D_q15_0 : LoopD := ⟨⟨mkSlots [(0, false, [.d (.sl .int)]), (1, false, [.d (.sl .int)]), (5, false, [.d (.int .i64)])] 41 0, []⟩, [], [(.ret, ⟨mkSlots [(4, false, [.d (.int .i64)])] 41 0, []⟩, []), (.exit 0, ⟨mkSlots [] 41 0, []⟩, [])]⟩
noncomputable def S_q15_0_w (x : Tys D_q15_0.head.ks) : Option (OutT D_q15_0.outs) := @whileO ((List Int) × (List Int) × Int × Unit) ((Int × Unit) ⊕ (Unit)) S_spec_l02Cmp_0 x
noncomputable def E_q15 : Env := ⟨layD, [], [(6, mkLM D_q15_0 S_q15_0_w)], [(8, [(0, []), (1, []), (2, []), (3, []), (4, []), (5, []), (6, []), (7, []), (8, [])]), (10, [(0, []), (1, []), (2, []), (3, []), (4, []), (5, []), (6, []), (7, []), (8, [])])]⟩
theorem cons_q15 : ConsOk Try.prog E_q15.cons := consOk_nil
theorem S_q15_0_ok (x : Tys D_q15_0.head.ks) : stepL E_q15 D_q15_0 body_q15_0 x = S_spec_l02Cmp_0 x := by kernel_rfl
theorem loops_q15_0 : loopsIn body_q15_0 = [] := by kernel_rfl
theorem l_q15_0 : LoopOk Try.prog (mkLM D_q15_0 S_q15_0_w) body_q15_0 := loop_ok2 mix layD_ok cons_q15 (by kernel_rfl) (loops_mem loops_q15_0 (trivial)) S_q15_0_ok fun _ _ h => h
theorem loops_q15 : loopsIn code_q15 = [body_q15_0] := by kernel_rfl
theorem m_q15 : Meets Try.prog 115 c_q15 := meets_of (E := E_q15) (code := code_q15) mix layD_ok cons_q15 Try.func115 (by kernel_rfl) sg_q15 (by kernel_rfl) (fun y => y.1) c_q15.out (fun _ => rfl) c_q15.run (fun x => by kernel_rfl) (by kernel_rfl) (loops_mem loops_q15 (⟨⟨_, by kernel_rfl, l_q15_0⟩, trivial⟩))
noncomputable def sg_q16 : Sig := ⟨[(false, [.d (.sl .int)])], [], true, [(false, [.d (.int .i64)]), (false, [.d (.bool)])], []⟩
noncomputable def c_q16 : Con := ⟨sg_q16, Int × Bool, fun x => M_spec_NatToInt x.1, fun r => (r.1, r.2, ())⟩
noncomputable def code_q16 : Code := Try.f107.body.getD .skip
noncomputable def body_q16_0 : Code := (loopsIn code_q16).getD 0 .skip
noncomputable def D_q16_0 : LoopD := ⟨⟨mkSlots [(0, false, [.d (.sl .int)]), (4, false, [.d (.int .i64)]), (5, false, [.d (.int .i64)])] 30 0, []⟩, [], [(.exit 0, ⟨mkSlots [(4, false, [.d (.int .i64)])] 30 0, []⟩, [])]⟩
noncomputable def S_q16_0_w (x : Tys D_q16_0.head.ks) : Option (OutT D_q16_0.outs) := @whileO ((List Int) × Int × Int × Unit) (Int × Unit) S_spec_NatToInt_0 x
noncomputable def E_q16 : Env := ⟨layD, [(92, c_q12), (115, c_q15)], [(5, mkLM D_q16_0 S_q16_0_w)], []⟩
theorem cons_q16 : ConsOk Try.prog E_q16.cons := consOk_cons m_q12 (callable_of Try.func92 (by kernel_rfl)) (consOk_cons m_q15 (callable_of Try.func115 (by kernel_rfl)) (consOk_nil))
theorem S_q16_0_ok (x : Tys D_q16_0.head.ks) : stepL E_q16 D_q16_0 body_q16_0 x = S_spec_NatToInt_0 x := by kernel_rfl
theorem loops_q16_0 : loopsIn body_q16_0 = [] := by kernel_rfl
theorem l_q16_0 : LoopOk Try.prog (mkLM D_q16_0 S_q16_0_w) body_q16_0 := loop_ok2 mix layD_ok cons_q16 (by kernel_rfl) (loops_mem loops_q16_0 (trivial)) S_q16_0_ok fun _ _ h => h
theorem loops_q16 : loopsIn code_q16 = [body_q16_0] := by kernel_rfl
theorem m_q16 : Meets Try.prog 107 c_q16 := meets_of (E := E_q16) (code := code_q16) mix layD_ok cons_q16 Try.func107 (by kernel_rfl) sg_q16 (by kernel_rfl) (fun y => (y.1, y.2.1)) c_q16.out (fun _ => rfl) c_q16.run (fun x => by kernel_rfl) (by kernel_rfl) (loops_mem loops_q16 (⟨⟨_, by kernel_rfl, l_q16_0⟩, trivial⟩))
noncomputable def sg_q17 : Sig := ⟨[(false, [.d (.int .i64)]), (false, [.d (.int .i64)])], [], false, [(false, [.own 0])], [(0, .arr false .int)]⟩
noncomputable def c_q17 : Con := ⟨sg_q17, List Int, fun x => M_spec_l02Plain x.1 x.2.1, fun r => (r, ())⟩
noncomputable def code_q17 : Code := Try.f108.body.getD .skip
noncomputable def body_q17_0 : Code := (loopsIn code_q17).getD 0 .skip
noncomputable def D_q17_0 : LoopD := ⟨⟨mkSlots [(0, false, [.d (.int .i64)]), (1, false, [.d (.int .i64)])] 15 0, []⟩, [], [(.exit 0, ⟨mkSlots [(0, false, [.d (.int .i64)])] 15 0, []⟩, [])]⟩
noncomputable def S_q17_0_w (x : Tys D_q17_0.head.ks) : Option (OutT D_q17_0.outs) := @whileO (Int × Int × Unit) (Int × Unit) S_spec_l02Plain_0 x
noncomputable def E_q17 : Env := ⟨layD, [(111, c_q9)], [(1, mkLM D_q17_0 S_q17_0_w)], []⟩
theorem cons_q17 : ConsOk Try.prog E_q17.cons := consOk_cons m_q9 (callable_of Try.func111 (by kernel_rfl)) (consOk_nil)
theorem S_q17_0_ok (x : Tys D_q17_0.head.ks) : stepL E_q17 D_q17_0 body_q17_0 x = S_spec_l02Plain_0 x := by kernel_rfl
theorem loops_q17_0 : loopsIn body_q17_0 = [] := by kernel_rfl
theorem l_q17_0 : LoopOk Try.prog (mkLM D_q17_0 S_q17_0_w) body_q17_0 := loop_ok2 mix layD_ok cons_q17 (by kernel_rfl) (loops_mem loops_q17_0 (trivial)) S_q17_0_ok fun _ _ h => h
theorem loops_q17 : loopsIn code_q17 = [body_q17_0] := by kernel_rfl
theorem m_q17 : Meets Try.prog 108 c_q17 := meets_of (E := E_q17) (code := code_q17) mix layD_ok cons_q17 Try.func108 (by kernel_rfl) sg_q17 (by kernel_rfl) (fun y => y.1) c_q17.out (fun _ => rfl) c_q17.run (fun x => by kernel_rfl) (by kernel_rfl) (loops_mem loops_q17 (⟨⟨_, by kernel_rfl, l_q17_0⟩, trivial⟩))
noncomputable def sg_q18 : Sig := ⟨[(false, [.own 0])], [(0, .arr false .int)], false, [(false, [.own 0])], [(0, .arr false .int)]⟩
noncomputable def c_q18 : Con := ⟨sg_q18, List Int, fun x => M_spec_l02Trim_c x.1, fun r => (r, ())⟩
noncomputable def code_q18 : Code := Try.f112.body.getD .skip
noncomputable def body_q18_0 : Code := (loopsIn code_q18).getD 0 .skip
noncomputable def D_q18_0 : LoopD := ⟨⟨mkSlots [(0, false, [.own 1408]), (3, false, [.d (.int .i64)])] 21 0, [(1408, .arr false .int)]⟩, [], [(.exit 0, ⟨mkSlots [(0, false, [.own 1408]), (3, false, [.d (.int .i64)])] 21 0, [(1408, .arr false .int)]⟩, [])]⟩
noncomputable def S_q18_0_w (x : Tys D_q18_0.head.ks) : Option (OutT D_q18_0.outs) := @whileO (Int × (List Int) × Unit) (Int × (List Int) × Unit) S_spec_l02Trim_c_0 x
noncomputable def E_q18 : Env := ⟨layD, [], [(2, mkLM D_q18_0 S_q18_0_w)], []⟩
theorem cons_q18 : ConsOk Try.prog E_q18.cons := consOk_nil
theorem S_q18_0_ok (x : Tys D_q18_0.head.ks) : stepL E_q18 D_q18_0 body_q18_0 x = S_spec_l02Trim_c_0 x := by kernel_rfl
theorem loops_q18_0 : loopsIn body_q18_0 = [] := by kernel_rfl
theorem l_q18_0 : LoopOk Try.prog (mkLM D_q18_0 S_q18_0_w) body_q18_0 := loop_ok2 mix layD_ok cons_q18 (by kernel_rfl) (loops_mem loops_q18_0 (trivial)) S_q18_0_ok fun _ _ h => h
theorem loops_q18 : loopsIn code_q18 = [body_q18_0] := by kernel_rfl
theorem m_q18 : Meets Try.prog 112 c_q18 := meets_of (E := E_q18) (code := code_q18) mix layD_ok cons_q18 Try.func112 (by kernel_rfl) sg_q18 (by kernel_rfl) (fun y => y.1) c_q18.out (fun _ => rfl) c_q18.run (fun x => by kernel_rfl) (by kernel_rfl) (loops_mem loops_q18 (⟨⟨_, by kernel_rfl, l_q18_0⟩, trivial⟩))
noncomputable def sg_q19 : Sig := ⟨[(false, [.d (.sl .int)]), (false, [.d (.int .i64)])], [], true, [(false, [.own 0]), (false, [.d (.int .i64)])], [(0, .arr false .int)]⟩
noncomputable def c_q19 : Con := ⟨sg_q19, List Int × Int, fun x => M_spec_l02Small x.1 x.2.1, fun r => (r.2, r.1, ())⟩
noncomputable def code_q19 : Code := Try.f116.body.getD .skip
noncomputable def body_q19_0 : Code := (loopsIn code_q19).getD 0 .skip
noncomputable def D_q19_0 : LoopD := ⟨⟨mkSlots [(0, false, [.d (.sl .int)]), (1, false, [.d (.int .i64)]), (6, false, [.own 2560]), (7, false, [.d (.int .i64)]), (8, false, [.d (.int .i64)])] 39 0, [(2560, .arr false .int)]⟩, [], [(.exit 0, ⟨mkSlots [(6, false, [.own 2560]), (7, false, [.d (.int .i64)])] 39 0, [(2560, .arr false .int)]⟩, [])]⟩
noncomputable def S_q19_0_w (x : Tys D_q19_0.head.ks) : Option (OutT D_q19_0.outs) := @whileO ((List Int) × Int × Int × Int × (List Int) × Unit) (Int × (List Int) × Unit) S_spec_l02Small_0 x
noncomputable def E_q19 : Env := ⟨layD, [(112, c_q18)], [(4, mkLM D_q19_0 S_q19_0_w)], []⟩
theorem cons_q19 : ConsOk Try.prog E_q19.cons := consOk_cons m_q18 (callable_of Try.func112 (by kernel_rfl)) (consOk_nil)
theorem S_q19_0_ok (x : Tys D_q19_0.head.ks) : stepL E_q19 D_q19_0 body_q19_0 x = S_spec_l02Small_0 x := by kernel_rfl
theorem loops_q19_0 : loopsIn body_q19_0 = [] := by kernel_rfl
theorem l_q19_0 : LoopOk Try.prog (mkLM D_q19_0 S_q19_0_w) body_q19_0 := loop_ok2 mix layD_ok cons_q19 (by kernel_rfl) (loops_mem loops_q19_0 (trivial)) S_q19_0_ok fun _ _ h => h
theorem loops_q19 : loopsIn code_q19 = [body_q19_0] := by kernel_rfl
theorem m_q19 : Meets Try.prog 116 c_q19 := meets_of (E := E_q19) (code := code_q19) mix layD_ok cons_q19 Try.func116 (by kernel_rfl) sg_q19 (by kernel_rfl) (fun y => (y.2.1, y.1)) c_q19.out (fun _ => rfl) c_q19.run (fun x => by kernel_rfl) (by kernel_rfl) (loops_mem loops_q19 (⟨⟨_, by kernel_rfl, l_q19_0⟩, trivial⟩))
noncomputable def sg_q20 : Sig := ⟨[(false, [.d (.sl .int)]), (false, [.d (.sl .int)])], [], false, [(false, [.own 0])], [(0, .arr false .int)]⟩
noncomputable def c_q20 : Con := ⟨sg_q20, List Int, fun x => M_spec_l02Mul x.1 x.2.1, fun r => (r, ())⟩
noncomputable def code_q20 : Code := Try.f98.body.getD .skip
noncomputable def body_q20_0 : Code := (loopsIn code_q20).getD 0 .skip
noncomputable def body_q20_1 : Code := (loopsIn body_q20_0).getD 0 .skip
noncomputable def D_q20_0 : LoopD := ⟨⟨mkSlots [(1, false, [.d (.sl .int)]), (5, false, [.own 4672]), (26, false, [.d (.sl .int)]), (27, false, [.d (.int .i64)]), (28, false, [.d (.int .i64)])] 72 0, [(4672, .arr false .int)]⟩, [], [(.exit 0, ⟨mkSlots [(5, false, [.own 4672])] 72 0, [(4672, .arr false .int)]⟩, [])]⟩
noncomputable def D_q20_1 : LoopD := ⟨⟨mkSlots [(1, false, [.d (.sl .int)]), (5, false, [.own 4672]), (6, false, [.d (.int .i64)]), (7, false, [.d (.int .i64)]), (8, false, [.d (.int .i64)]), (26, false, [.d (.sl .int)]), (27, false, [.d (.int .i64)]), (28, false, [.d (.int .i64)]), (33, false, [.d (.sl .int)]), (34, false, [.d (.int .i64)]), (35, false, [.d (.int .i64)])] 72 0, [(4672, .arr false .int)]⟩, [], [(.exit 2, ⟨mkSlots [(1, false, [.d (.sl .int)]), (5, false, [.own 4672]), (6, false, [.d (.int .i64)]), (8, false, [.d (.int .i64)]), (26, false, [.d (.sl .int)]), (27, false, [.d (.int .i64)]), (28, false, [.d (.int .i64)])] 72 0, [(4672, .arr false .int)]⟩, [])]⟩
noncomputable def S_q20_0_w (x : Tys D_q20_0.head.ks) : Option (OutT D_q20_0.outs) := @whileO ((List Int) × (List Int) × Int × Int × (List Int) × Unit) ((List Int) × Unit) S_spec_l02Mul_0 x
noncomputable def S_q20_1_w (x : Tys D_q20_1.head.ks) : Option (OutT D_q20_1.outs) := @whileO ((List Int) × Int × Int × Int × (List Int) × Int × Int × (List Int) × Int × Int × (List Int) × Unit) ((List Int) × Int × Int × (List Int) × Int × Int × (List Int) × Unit) S_spec_l02Mul_1 x
noncomputable def E_q20 : Env := ⟨layD, [(112, c_q18)], [(5, mkLM D_q20_0 S_q20_0_w), (9, mkLM D_q20_1 S_q20_1_w)], []⟩
theorem cons_q20 : ConsOk Try.prog E_q20.cons := consOk_cons m_q18 (callable_of Try.func112 (by kernel_rfl)) (consOk_nil)
theorem S_q20_1_ok (x : Tys D_q20_1.head.ks) : stepL E_q20 D_q20_1 body_q20_1 x = S_spec_l02Mul_1 x := by kernel_rfl
theorem loops_q20_1 : loopsIn body_q20_1 = [] := by kernel_rfl
theorem l_q20_1 : LoopOk Try.prog (mkLM D_q20_1 S_q20_1_w) body_q20_1 := loop_ok2 mix layD_ok cons_q20 (by kernel_rfl) (loops_mem loops_q20_1 (trivial)) S_q20_1_ok fun _ _ h => h
theorem S_q20_0_ok (x : Tys D_q20_0.head.ks) : stepL E_q20 D_q20_0 body_q20_0 x = S_spec_l02Mul_0 x := by kernel_rfl
theorem loops_q20_0 : loopsIn body_q20_0 = [body_q20_1] := by kernel_rfl
theorem l_q20_0 : LoopOk Try.prog (mkLM D_q20_0 S_q20_0_w) body_q20_0 := loop_ok2 mix layD_ok cons_q20 (by kernel_rfl) (loops_mem loops_q20_0 (⟨⟨_, by kernel_rfl, l_q20_1⟩, trivial⟩)) S_q20_0_ok fun _ _ h => h
theorem loops_q20 : loopsIn code_q20 = [body_q20_0] := by kernel_rfl
theorem m_q20 : Meets Try.prog 98 c_q20 := meets_of (E := E_q20) (code := code_q20) mix layD_ok cons_q20 Try.func98 (by kernel_rfl) sg_q20 (by kernel_rfl) (fun y => y.1) c_q20.out (fun _ => rfl) c_q20.run (fun x => by kernel_rfl) (by kernel_rfl) (loops_mem loops_q20 (⟨⟨_, by kernel_rfl, l_q20_0⟩, trivial⟩))
noncomputable def sg_q21 : Sig := ⟨[(false, [.d (.sl .int)]), (false, [.d (.sl .int)])], [], false, [(false, [.d (.int .i64)])], []⟩
noncomputable def c_q21 : Con := ⟨sg_q21, Int, fun x => M_spec_l02Digit x.1 x.2.1, fun r => (r, ())⟩
noncomputable def code_q21 : Code := Try.f117.body.getD .skip
noncomputable def body_q21_0 : Code := (loopsIn code_q21).getD 0 .skip
noncomputable def D_q21_0 : LoopD := ⟨⟨mkSlots [(0, false, [.d (.sl .int)]), (1, false, [.d (.sl .int)]), (5, false, [.d (.int .i64)]), (6, false, [.d (.int .i64)])] 27 0, []⟩, [], [(.exit 0, ⟨mkSlots [(5, false, [.d (.int .i64)])] 27 0, []⟩, [])]⟩
noncomputable def S_q21_0_w (x : Tys D_q21_0.head.ks) : Option (OutT D_q21_0.outs) := @whileO ((List Int) × (List Int) × Int × Int × Unit) (Int × Unit) S_spec_l02Digit_0 x
noncomputable def E_q21 : Env := ⟨layD, [(111, c_q9), (98, c_q20), (115, c_q15)], [(3, mkLM D_q21_0 S_q21_0_w)], []⟩
theorem cons_q21 : ConsOk Try.prog E_q21.cons := consOk_cons m_q9 (callable_of Try.func111 (by kernel_rfl)) (consOk_cons m_q20 (callable_of Try.func98 (by kernel_rfl)) (consOk_cons m_q15 (callable_of Try.func115 (by kernel_rfl)) (consOk_nil)))
theorem S_q21_0_ok (x : Tys D_q21_0.head.ks) : stepL E_q21 D_q21_0 body_q21_0 x = S_spec_l02Digit_0 x := by kernel_rfl
theorem loops_q21_0 : loopsIn body_q21_0 = [] := by kernel_rfl
theorem l_q21_0 : LoopOk Try.prog (mkLM D_q21_0 S_q21_0_w) body_q21_0 := loop_ok2 mix layD_ok cons_q21 (by kernel_rfl) (loops_mem loops_q21_0 (trivial)) S_q21_0_ok fun _ _ h => h
theorem loops_q21 : loopsIn code_q21 = [body_q21_0] := by kernel_rfl
theorem m_q21 : Meets Try.prog 117 c_q21 := meets_of (E := E_q21) (code := code_q21) mix layD_ok cons_q21 Try.func117 (by kernel_rfl) sg_q21 (by kernel_rfl) (fun y => y.1) c_q21.out (fun _ => rfl) c_q21.run (fun x => by kernel_rfl) (by kernel_rfl) (loops_mem loops_q21 (⟨⟨_, by kernel_rfl, l_q21_0⟩, trivial⟩))
noncomputable def sg_q22 : Sig := ⟨[(false, [.d (.sl .int)]), (false, [.d (.sl .int)])], [], false, [(false, [.own 0])], [(0, .arr false .int)]⟩
noncomputable def c_q22 : Con := ⟨sg_q22, List Int, fun x => M_spec_l02Sub x.1 x.2.1, fun r => (r, ())⟩
noncomputable def code_q22 : Code := Try.f118.body.getD .skip
noncomputable def body_q22_0 : Code := (loopsIn code_q22).getD 0 .skip
noncomputable def D_q22_0 : LoopD := ⟨⟨mkSlots [(0, false, [.d (.sl .int)]), (1, false, [.d (.sl .int)]), (5, false, [.own 2752]), (6, false, [.d (.int .i64)]), (11, false, [.d (.int .i64)]), (12, false, [.d (.int .i64)])] 42 0, [(2752, .arr false .int)]⟩, [(.slot 5 0, 2752, .int)], [(.exit 0, ⟨mkSlots [(5, false, [.own 2752])] 42 0, [(2752, .arr false .int)]⟩, [(.slot 5 0, 2752, .int)])]⟩
noncomputable def S_q22_0_w (x : Tys D_q22_0.head.ks) : Option (OutT D_q22_0.outs) := @whileO ((List Int) × (List Int) × Int × Int × Int × (List Int) × Unit) ((List Int) × Unit) S_spec_l02Sub_0 x
noncomputable def E_q22 : Env := ⟨layD, [(112, c_q18)], [(4, mkLM D_q22_0 S_q22_0_w)], []⟩
theorem cons_q22 : ConsOk Try.prog E_q22.cons := consOk_cons m_q18 (callable_of Try.func112 (by kernel_rfl)) (consOk_nil)
theorem S_q22_0_ok (x : Tys D_q22_0.head.ks) : stepL E_q22 D_q22_0 body_q22_0 x = S_spec_l02Sub_0 x := by kernel_rfl
theorem loops_q22_0 : loopsIn body_q22_0 = [] := by kernel_rfl
theorem l_q22_0 : LoopOk Try.prog (mkLM D_q22_0 S_q22_0_w) body_q22_0 := loop_ok2 mix layD_ok cons_q22 (by kernel_rfl) (loops_mem loops_q22_0 (trivial)) S_q22_0_ok fun _ _ h => h
theorem loops_q22 : loopsIn code_q22 = [body_q22_0] := by kernel_rfl
theorem m_q22 : Meets Try.prog 118 c_q22 := meets_of (E := E_q22) (code := code_q22) mix layD_ok cons_q22 Try.func118 (by kernel_rfl) sg_q22 (by kernel_rfl) (fun y => y.1) c_q22.out (fun _ => rfl) c_q22.run (fun x => by kernel_rfl) (by kernel_rfl) (loops_mem loops_q22 (⟨⟨_, by kernel_rfl, l_q22_0⟩, trivial⟩))
noncomputable def sg_q23 : Sig := ⟨[(false, [.d (.sl .int)]), (false, [.d (.sl .int)])], [], true, [(false, [.own 0]), (false, [.own 1])], [(0, .arr false .int), (1, .arr false .int)]⟩
noncomputable def c_q23 : Con := ⟨sg_q23, List Int × List Int, fun x => M_spec_l02Div x.1 x.2.1, fun r => (r.1, r.2, ())⟩
noncomputable def code_q23 : Code := Try.f109.body.getD .skip
noncomputable def body_q23_0 : Code := (loopsIn code_q23).getD 0 .skip
noncomputable def D_q23_0 : LoopD := ⟨⟨mkSlots [(0, false, [.d (.sl .int)]), (1, false, [.d (.sl .int)]), (8, false, [.own 4224]), (9, false, [.own 4288]), (10, false, [.d (.int .i64)])] 65 0, [(4224, .arr false .int), (4288, .arr false .int)]⟩, [(.slot 9 0, 4288, .int)], [(.exit 0, ⟨mkSlots [(8, false, [.own 4224]), (9, false, [.own 4288])] 65 0, [(4224, .arr false .int), (4288, .arr false .int)]⟩, [(.slot 9 0, 4288, .int)])]⟩
noncomputable def S_q23_0_w (x : Tys D_q23_0.head.ks) : Option (OutT D_q23_0.outs) := @whileO ((List Int) × (List Int) × Int × (List Int) × (List Int) × Unit) ((List Int) × (List Int) × Unit) S_spec_l02Div_0 x
noncomputable def E_q23 : Env := ⟨layD, [(116, c_q19), (111, c_q9), (112, c_q18), (115, c_q15), (117, c_q21), (98, c_q20), (118, c_q22)], [(7, mkLM D_q23_0 S_q23_0_w)], []⟩
theorem cons_q23 : ConsOk Try.prog E_q23.cons := consOk_cons m_q19 (callable_of Try.func116 (by kernel_rfl)) (consOk_cons m_q9 (callable_of Try.func111 (by kernel_rfl)) (consOk_cons m_q18 (callable_of Try.func112 (by kernel_rfl)) (consOk_cons m_q15 (callable_of Try.func115 (by kernel_rfl)) (consOk_cons m_q21 (callable_of Try.func117 (by kernel_rfl)) (consOk_cons m_q20 (callable_of Try.func98 (by kernel_rfl)) (consOk_cons m_q22 (callable_of Try.func118 (by kernel_rfl)) (consOk_nil)))))))
theorem S_q23_0_ok (x : Tys D_q23_0.head.ks) : stepL E_q23 D_q23_0 body_q23_0 x = S_spec_l02Div_0 x := by kernel_rfl
theorem loops_q23_0 : loopsIn body_q23_0 = [] := by kernel_rfl
theorem l_q23_0 : LoopOk Try.prog (mkLM D_q23_0 S_q23_0_w) body_q23_0 := loop_ok2 mix layD_ok cons_q23 (by kernel_rfl) (loops_mem loops_q23_0 (trivial)) S_q23_0_ok fun _ _ h => h
theorem loops_q23 : loopsIn code_q23 = [body_q23_0] := by kernel_rfl
theorem m_q23 : Meets Try.prog 109 c_q23 := meets_of (E := E_q23) (code := code_q23) mix layD_ok cons_q23 Try.func109 (by kernel_rfl) sg_q23 (by kernel_rfl) (fun y => (y.1, y.2.1)) c_q23.out (fun _ => rfl) c_q23.run (fun x => by kernel_rfl) (by kernel_rfl) (loops_mem loops_q23 (⟨⟨_, by kernel_rfl, l_q23_0⟩, trivial⟩))
noncomputable def sg_q24 : Sig := ⟨[(false, [.d (.sl .int)]), (false, [.d (.sl .int)])], [], false, [(false, [.own 0])], [(0, .arr false .int)]⟩
noncomputable def c_q24 : Con := ⟨sg_q24, List Int, fun x => M_spec_l02Gcd x.1 x.2.1, fun r => (r, ())⟩
noncomputable def code_q24 : Code := Try.f94.body.getD .skip
noncomputable def body_q24_0 : Code := (loopsIn code_q24).getD 0 .skip
noncomputable def D_q24_0 : LoopD := ⟨⟨mkSlots [(5, false, [.own 3392]), (6, false, [.own 3456])] 52 0, [(3392, .arr false .int), (3456, .arr false .int)]⟩, [], [(.ret, ⟨mkSlots [(4, false, [.own 3520])] 52 0, [(3520, .arr false .int)]⟩, []), (.exit 0, ⟨mkSlots [(5, false, [.own 3392])] 52 0, [(3392, .arr false .int)]⟩, [])]⟩
noncomputable def S_q24_0_w (x : Tys D_q24_0.head.ks) : Option (OutT D_q24_0.outs) := @whileO ((List Int) × (List Int) × Unit) (((List Int) × Unit) ⊕ ((List Int) × Unit)) S_spec_l02Gcd_0 x
noncomputable def E_q24 : Env := ⟨layD, [(107, c_q16), (108, c_q17), (109, c_q23)], [(3, mkLM D_q24_0 S_q24_0_w)], []⟩
theorem cons_q24 : ConsOk Try.prog E_q24.cons := consOk_cons m_q16 (callable_of Try.func107 (by kernel_rfl)) (consOk_cons m_q17 (callable_of Try.func108 (by kernel_rfl)) (consOk_cons m_q23 (callable_of Try.func109 (by kernel_rfl)) (consOk_nil)))
theorem S_q24_0_ok (x : Tys D_q24_0.head.ks) : stepL E_q24 D_q24_0 body_q24_0 x = S_spec_l02Gcd_0 x := by kernel_rfl
theorem loops_q24_0 : loopsIn body_q24_0 = [] := by kernel_rfl
theorem l_q24_0 : LoopOk Try.prog (mkLM D_q24_0 S_q24_0_w) body_q24_0 := loop_ok2 mix layD_ok cons_q24 (by kernel_rfl) (loops_mem loops_q24_0 (trivial)) S_q24_0_ok fun _ _ h => h
theorem loops_q24 : loopsIn code_q24 = [body_q24_0] := by kernel_rfl
theorem m_q24 : Meets Try.prog 94 c_q24 := meets_of (E := E_q24) (code := code_q24) mix layD_ok cons_q24 Try.func94 (by kernel_rfl) sg_q24 (by kernel_rfl) (fun y => y.1) c_q24.out (fun _ => rfl) c_q24.run (fun x => by kernel_rfl) (by kernel_rfl) (loops_mem loops_q24 (⟨⟨_, by kernel_rfl, l_q24_0⟩, trivial⟩))
noncomputable def sg_q25 : Sig := ⟨[(false, [.d (.bool)]), (false, [.d (.sl .int)]), (false, [.d (.sl .int)])], [], false, [(true, [.d (.bool), .own 0, .own 1])], [(0, .arr false .int), (1, .arr false .int)]⟩
noncomputable def c_q25 : Con := ⟨sg_q25, Rt, fun x => M_spec_l04Low x.1 x.2.1 x.2.2.1, fun r => (r.neg, r.mag, r.den, ())⟩
noncomputable def code_q25 : Code := Try.f97.body.getD .skip
noncomputable def E_q25 : Env := ⟨layD, [(112, c_q6), (93, c_q14), (94, c_q24), (109, c_q23), (110, c_q8)], [], []⟩
theorem cons_q25 : ConsOk Try.prog E_q25.cons := consOk_cons m_q6 (callable_of Try.func112 (by kernel_rfl)) (consOk_cons m_q14 (callable_of Try.func93 (by kernel_rfl)) (consOk_cons m_q24 (callable_of Try.func94 (by kernel_rfl)) (consOk_cons m_q23 (callable_of Try.func109 (by kernel_rfl)) (consOk_cons m_q8 (callable_of Try.func110 (by kernel_rfl)) (consOk_nil)))))
theorem loops_q25 : loopsIn code_q25 = [] := by kernel_rfl
theorem m_q25 : Meets Try.prog 97 c_q25 := meets_of (E := E_q25) (code := code_q25) mix layD_ok cons_q25 Try.func97 (by kernel_rfl) sg_q25 (by kernel_rfl) (fun y => (⟨y.1, y.2.1, y.2.2.1⟩ : Rt)) c_q25.out (fun _ => rfl) c_q25.run (fun x => by kernel_rfl) (by kernel_rfl) (loops_mem loops_q25 (trivial))
noncomputable def sg_q26 : Sig := ⟨[(true, [.d (.bool), .d (.sl .int)]), (true, [.d (.bool), .d (.sl .int)])], [], false, [(true, [.d (.bool), .own 0, .own 1])], [(0, .arr false .int), (1, .arr false .int)]⟩
noncomputable def c_q26 : Con := ⟨sg_q26, Rt, fun x => M_spec_RatMake (⟨x.1, x.2.1⟩ : Bg) (⟨x.2.2.1, x.2.2.2.1⟩ : Bg), fun r => (r.neg, r.mag, r.den, ())⟩
noncomputable def code_q26 : Code := Try.f101.body.getD .skip
noncomputable def E_q26 : Env := ⟨layD, [(91, c_q13), (97, c_q25)], [], []⟩
theorem cons_q26 : ConsOk Try.prog E_q26.cons := consOk_cons m_q13 (callable_of Try.func91 (by kernel_rfl)) (consOk_cons m_q25 (callable_of Try.func97 (by kernel_rfl)) (consOk_nil))
theorem loops_q26 : loopsIn code_q26 = [] := by kernel_rfl
theorem m_q26 : Meets Try.prog 101 c_q26 := meets_of (E := E_q26) (code := code_q26) mix layD_ok cons_q26 Try.func101 (by kernel_rfl) sg_q26 (by kernel_rfl) (fun y => (⟨y.1, y.2.1, y.2.2.1⟩ : Rt)) c_q26.out (fun _ => rfl) c_q26.run (fun x => by kernel_rfl) (by kernel_rfl) (loops_mem loops_q26 (trivial))
noncomputable def sg_q27 : Sig := ⟨[(false, [.d (.int .i64)]), (false, [.d (.int .i64)])], [], false, [(true, [.d (.bool), .own 0, .own 1])], [(0, .arr false .int), (1, .arr false .int)]⟩
noncomputable def c_q27 : Con := ⟨sg_q27, Rt, fun x => M_spec_RatOf x.1 x.2.1, fun r => (r.neg, r.mag, r.den, ())⟩
noncomputable def code_q27 : Code := Try.f84.body.getD .skip
noncomputable def E_q27 : Env := ⟨layD, [(96, c_q10), (101, c_q26)], [], []⟩
theorem cons_q27 : ConsOk Try.prog E_q27.cons := consOk_cons m_q10 (callable_of Try.func96 (by kernel_rfl)) (consOk_cons m_q26 (callable_of Try.func101 (by kernel_rfl)) (consOk_nil))
theorem loops_q27 : loopsIn code_q27 = [] := by kernel_rfl
theorem m_q27 : Meets Try.prog 84 c_q27 := meets_of (E := E_q27) (code := code_q27) mix layD_ok cons_q27 Try.func84 (by kernel_rfl) sg_q27 (by kernel_rfl) (fun y => (⟨y.1, y.2.1, y.2.2.1⟩ : Rt)) c_q27.out (fun _ => rfl) c_q27.run (fun x => by kernel_rfl) (by kernel_rfl) (loops_mem loops_q27 (trivial))
noncomputable def sg_q28 : Sig := ⟨[(false, [.d (.int .i64)])], [], false, [(true, [.d (.bool), .own 0, .own 1])], [(0, .arr false .int), (1, .arr false .int)]⟩
noncomputable def c_q28 : Con := ⟨sg_q28, Rt, fun x => M_spec_RatFromInt x.1, fun r => (r.neg, r.mag, r.den, ())⟩
noncomputable def code_q28 : Code := Try.f75.body.getD .skip
noncomputable def E_q28 : Env := ⟨layD, [(96, c_q10)], [], []⟩
theorem cons_q28 : ConsOk Try.prog E_q28.cons := consOk_cons m_q10 (callable_of Try.func96 (by kernel_rfl)) (consOk_nil)
theorem loops_q28 : loopsIn code_q28 = [] := by kernel_rfl
theorem m_q28 : Meets Try.prog 75 c_q28 := meets_of (E := E_q28) (code := code_q28) mix layD_ok cons_q28 Try.func75 (by kernel_rfl) sg_q28 (by kernel_rfl) (fun y => (⟨y.1, y.2.1, y.2.2.1⟩ : Rt)) c_q28.out (fun _ => rfl) c_q28.run (fun x => by kernel_rfl) (by kernel_rfl) (loops_mem loops_q28 (trivial))
noncomputable def sg_q29 : Sig := ⟨[(false, [.lp 63 0])], [(63, .box [.d (.sl .byte), .d (.int .i64), .d (.int .i64)])], false, [(true, [.d (.bool), .own 0, .own 1])], [(0, .arr false .int), (1, .arr false .int), (63, .box [.d (.sl .byte), .d (.int .i64), .d (.int .i64)])]⟩
noncomputable def c_q29 : Con := ⟨sg_q29, Rt × Cur, fun x => M_spec_l05Number (⟨x.1, x.2.1, x.2.2.1⟩ : Cur), fun r => (r.1.neg, r.1.mag, r.1.den, r.2.b, r.2.i, r.2.h, ())⟩
noncomputable def code_q29 : Code := Try.f56.body.getD .skip
noncomputable def E_q29 : Env := ⟨layD, [(83, c_q5), (85, c_q4), (84, c_q27), (75, c_q28)], [], []⟩
theorem cons_q29 : ConsOk Try.prog E_q29.cons := consOk_cons m_q5 (callable_of Try.func83 (by kernel_rfl)) (consOk_cons m_q4 (callable_of Try.func85 (by kernel_rfl)) (consOk_cons m_q27 (callable_of Try.func84 (by kernel_rfl)) (consOk_cons m_q28 (callable_of Try.func75 (by kernel_rfl)) (consOk_nil))))
theorem loops_q29 : loopsIn code_q29 = [] := by kernel_rfl
theorem m_q29 : Meets Try.prog 56 c_q29 := meets_of (E := E_q29) (code := code_q29) mix layD_ok cons_q29 Try.func56 (by kernel_rfl) sg_q29 (by kernel_rfl) (fun y => ((⟨y.1, y.2.1, y.2.2.1⟩ : Rt), (⟨y.2.2.2.1, y.2.2.2.2.1, y.2.2.2.2.2.1⟩ : Cur))) c_q29.out (fun _ => rfl) c_q29.run (fun x => by kernel_rfl) (by kernel_rfl) (loops_mem loops_q29 (trivial))
noncomputable def sg_q30 : Sig := ⟨[(false, [.lp 63 0]), (false, [.d (.int .i64)])], [(63, .box [.d (.sl .byte), .d (.int .i64), .d (.int .i64)])], false, [(false, [.dp 0])], [(0, .deep .rat), (63, .box [.d (.sl .byte), .d (.int .i64), .d (.int .i64)])]⟩
noncomputable def c_q30 : Con := ⟨sg_q30, List Rt × Cur, fun x => M_spec_l05Draw (⟨x.2.1, x.2.2.1, x.2.2.2.1⟩ : Cur) x.1, fun r => (r.1, r.2.b, r.2.i, r.2.h, ())⟩
noncomputable def code_q30 : Code := Try.f31.body.getD .skip
noncomputable def body_q30_0 : Code := (loopsIn code_q30).getD 0 .skip
noncomputable def D_q30_0 : LoopD := ⟨⟨mkSlots [(0, false, [.lp 63 0]), (1, false, [.d (.int .i64)]), (5, false, [.dp 1152])] 17 0, [(63, .box [.d (.sl .byte), .d (.int .i64), .d (.int .i64)]), (1152, .deep .rat)]⟩, [(.slotD 5 0, 1152, .rat)], [(.exit 0, ⟨mkSlots [(5, false, [.dp 1152])] 17 0, [(63, .box [.d (.sl .byte), .d (.int .i64), .d (.int .i64)]), (1152, .deep .rat)]⟩, [(.slotD 5 0, 1152, .rat)])]⟩
noncomputable def S_q30_0_w (x : Tys D_q30_0.head.ks) : Option (OutT D_q30_0.outs) := @whileO (Int × (List Int) × Int × Int × (List Rt) × Unit) ((List Int) × Int × Int × (List Rt) × Unit) S_spec_l05Draw_0 x
noncomputable def E_q30 : Env := ⟨layD, [(56, c_q29)], [(2, mkLM D_q30_0 S_q30_0_w)], []⟩
theorem cons_q30 : ConsOk Try.prog E_q30.cons := consOk_cons m_q29 (callable_of Try.func56 (by kernel_rfl)) (consOk_nil)
theorem S_q30_0_ok (x : Tys D_q30_0.head.ks) : stepL E_q30 D_q30_0 body_q30_0 x = S_spec_l05Draw_0 x := by kernel_rfl
theorem loops_q30_0 : loopsIn body_q30_0 = [] := by kernel_rfl
theorem l_q30_0 : LoopOk Try.prog (mkLM D_q30_0 S_q30_0_w) body_q30_0 := loop_ok2 mix layD_ok cons_q30 (by kernel_rfl) (loops_mem loops_q30_0 (trivial)) S_q30_0_ok fun _ _ h => h
theorem loops_q30 : loopsIn code_q30 = [body_q30_0] := by kernel_rfl
theorem m_q30 : Meets Try.prog 31 c_q30 := meets_of (E := E_q30) (code := code_q30) mix layD_ok cons_q30 Try.func31 (by kernel_rfl) sg_q30 (by kernel_rfl) (fun y => (y.1, (⟨y.2.1, y.2.2.1, y.2.2.2.1⟩ : Cur))) c_q30.out (fun _ => rfl) c_q30.run (fun x => by kernel_rfl) (by kernel_rfl) (loops_mem loops_q30 (⟨⟨_, by kernel_rfl, l_q30_0⟩, trivial⟩))
noncomputable def sg_q31 : Sig := ⟨[(false, [.lp 63 0]), (false, [.d (.int .i64)]), (false, [.d (.int .i64)])], [(63, .box [.d (.sl .byte), .d (.int .i64), .d (.int .i64)])], false, [(true, [.d (.int .i64), .d (.int .i64), .dp 0])], [(0, .deep .rat), (63, .box [.d (.sl .byte), .d (.int .i64), .d (.int .i64)])]⟩
noncomputable def c_q31 : Con := ⟨sg_q31, Mx × Cur, fun x => M_spec_l06Draw (⟨x.2.2.1, x.2.2.2.1, x.2.2.2.2.1⟩ : Cur) x.1 x.2.1, fun r => (r.1.rows, r.1.cols, r.1.cells, r.2.b, r.2.i, r.2.h, ())⟩
noncomputable def code_q31 : Code := Try.f16.body.getD .skip
noncomputable def E_q31 : Env := ⟨layD, [(31, c_q30)], [], []⟩
theorem cons_q31 : ConsOk Try.prog E_q31.cons := consOk_cons m_q30 (callable_of Try.func31 (by kernel_rfl)) (consOk_nil)
theorem loops_q31 : loopsIn code_q31 = [] := by kernel_rfl
theorem m_q31 : Meets Try.prog 16 c_q31 := meets_of (E := E_q31) (code := code_q31) mix layD_ok cons_q31 Try.func16 (by kernel_rfl) sg_q31 (by kernel_rfl) (fun y => ((⟨y.1, y.2.1, y.2.2.1⟩ : Mx), (⟨y.2.2.2.1, y.2.2.2.2.1, y.2.2.2.2.2.1⟩ : Cur))) c_q31.out (fun _ => rfl) c_q31.run (fun x => by kernel_rfl) (by kernel_rfl) (loops_mem loops_q31 (trivial))
noncomputable def sg_q32 : Sig := ⟨[(false, [.d (.sl .byte)]), (false, [.d (.int .i64)]), (false, [.d (.int .i64)]), (false, [.d (.int .i64)])], [], false, [(true, [.d (.int .i64), .d (.int .i64), .dp 0])], [(0, .deep .rat)]⟩
noncomputable def c_q32 : Con := ⟨sg_q32, Mx, fun x => M_spec_MakeMatrix x.1 x.2.1 x.2.2.1 x.2.2.2.1, fun r => (r.rows, r.cols, r.cells, ())⟩
noncomputable def code_q32 : Code := Try.f5.body.getD .skip
noncomputable def E_q32 : Env := ⟨layD, [(17, c_q3), (16, c_q31)], [], []⟩
theorem cons_q32 : ConsOk Try.prog E_q32.cons := consOk_cons m_q3 (callable_of Try.func17 (by kernel_rfl)) (consOk_cons m_q31 (callable_of Try.func16 (by kernel_rfl)) (consOk_nil))
theorem loops_q32 : loopsIn code_q32 = [] := by kernel_rfl
theorem m_q32 : Meets Try.prog 5 c_q32 := meets_of (E := E_q32) (code := code_q32) mix layD_ok cons_q32 Try.func5 (by kernel_rfl) sg_q32 (by kernel_rfl) (fun y => (⟨y.1, y.2.1, y.2.2.1⟩ : Mx)) c_q32.out (fun _ => rfl) c_q32.run (fun x => by kernel_rfl) (by kernel_rfl) (loops_mem loops_q32 (trivial))
noncomputable def sg_q33 : Sig := ⟨[(false, [.d (.int .i64)])], [], false, [(false, [.d (.bool)])], []⟩
noncomputable def c_q33 : Con := ⟨sg_q33, Bool, fun x => M_impl_isLength x.1, fun r => (r, ())⟩
noncomputable def code_q33 : Code := Try.f38.body.getD .skip
noncomputable def E_q33 : Env := ⟨layD, [], [], []⟩
theorem cons_q33 : ConsOk Try.prog E_q33.cons := consOk_nil
theorem loops_q33 : loopsIn code_q33 = [] := by kernel_rfl
theorem m_q33 : Meets Try.prog 38 c_q33 := meets_of (E := E_q33) (code := code_q33) mix layD_ok cons_q33 Try.func38 (by kernel_rfl) sg_q33 (by kernel_rfl) (fun y => y.1) c_q33.out (fun _ => rfl) c_q33.run (fun x => by kernel_rfl) (by kernel_rfl) (loops_mem loops_q33 (trivial))
noncomputable def sg_q34 : Sig := ⟨[(false, [.d (.sl .int)])], [], false, [(false, [.d (.bool)])], []⟩
noncomputable def c_q34 : Con := ⟨sg_q34, Bool, fun x => M_impl_NatOk x.1, fun r => (r, ())⟩
noncomputable def code_q34 : Code := Try.f60.body.getD .skip
noncomputable def body_q34_0 : Code := (loopsIn code_q34).getD 0 .skip
noncomputable def D_q34_0 : LoopD := ⟨⟨mkSlots [(22, false, [.d (.sl .int)]), (23, false, [.d (.int .i64)]), (24, false, [.d (.int .i64)])] 35 0, []⟩, [], [(.ret, ⟨mkSlots [(2, false, [.d (.bool)])] 35 0, []⟩, []), (.exit 0, ⟨mkSlots [] 35 0, []⟩, [])]⟩
noncomputable def S_q34_0_w (x : Tys D_q34_0.head.ks) : Option (OutT D_q34_0.outs) := @whileO ((List Int) × Int × Int × Unit) ((Bool × Unit) ⊕ (Unit)) S_impl_NatOk_0 x
noncomputable def E_q34 : Env := ⟨layD, [], [(4, mkLM D_q34_0 S_q34_0_w)], []⟩
theorem cons_q34 : ConsOk Try.prog E_q34.cons := consOk_nil
theorem S_q34_0_ok (x : Tys D_q34_0.head.ks) : stepL E_q34 D_q34_0 body_q34_0 x = S_impl_NatOk_0 x := by kernel_rfl
theorem loops_q34_0 : loopsIn body_q34_0 = [] := by kernel_rfl
theorem l_q34_0 : LoopOk Try.prog (mkLM D_q34_0 S_q34_0_w) body_q34_0 := loop_ok2 mix layD_ok cons_q34 (by kernel_rfl) (loops_mem loops_q34_0 (trivial)) S_q34_0_ok fun _ _ h => h
theorem loops_q34 : loopsIn code_q34 = [body_q34_0] := by kernel_rfl
theorem m_q34 : Meets Try.prog 60 c_q34 := meets_of (E := E_q34) (code := code_q34) mix layD_ok cons_q34 Try.func60 (by kernel_rfl) sg_q34 (by kernel_rfl) (fun y => y.1) c_q34.out (fun _ => rfl) c_q34.run (fun x => by kernel_rfl) (by kernel_rfl) (loops_mem loops_q34 (⟨⟨_, by kernel_rfl, l_q34_0⟩, trivial⟩))
noncomputable def sg_q35 : Sig := ⟨[(true, [.d (.bool), .d (.sl .int)])], [], false, [(false, [.d (.bool)])], []⟩
noncomputable def c_q35 : Con := ⟨sg_q35, Bool, fun x => M_impl_BigIntOk (⟨x.1, x.2.1⟩ : Bg), fun r => (r, ())⟩
noncomputable def code_q35 : Code := Try.f59.body.getD .skip
noncomputable def E_q35 : Env := ⟨layD, [(60, c_q34)], [], []⟩
theorem cons_q35 : ConsOk Try.prog E_q35.cons := consOk_cons m_q34 (callable_of Try.func60 (by kernel_rfl)) (consOk_nil)
theorem loops_q35 : loopsIn code_q35 = [] := by kernel_rfl
theorem m_q35 : Meets Try.prog 59 c_q35 := meets_of (E := E_q35) (code := code_q35) mix layD_ok cons_q35 Try.func59 (by kernel_rfl) sg_q35 (by kernel_rfl) (fun y => y.1) c_q35.out (fun _ => rfl) c_q35.run (fun x => by kernel_rfl) (by kernel_rfl) (loops_mem loops_q35 (trivial))
noncomputable def sg_q36 : Sig := ⟨[(false, [.d (.sl .int)]), (false, [.d (.sl .int)])], [], false, [(false, [.d (.int .i64)])], []⟩
noncomputable def c_q36 : Con := ⟨sg_q36, Int, fun x => M_impl_natCmp x.1 x.2.1, fun r => (r, ())⟩
noncomputable def code_q36 : Code := Try.f104.body.getD .skip
noncomputable def body_q36_0 : Code := (loopsIn code_q36).getD 0 .skip
noncomputable def D_q36_0 : LoopD := ⟨⟨mkSlots [(0, false, [.d (.sl .int)]), (1, false, [.d (.sl .int)]), (5, false, [.d (.int .i64)])] 43 0, []⟩, [], [(.ret, ⟨mkSlots [(4, false, [.d (.int .i64)])] 43 0, []⟩, []), (.exit 0, ⟨mkSlots [] 43 0, []⟩, [])]⟩
noncomputable def S_q36_0_w (x : Tys D_q36_0.head.ks) : Option (OutT D_q36_0.outs) := @whileO ((List Int) × (List Int) × Int × Unit) ((Int × Unit) ⊕ (Unit)) S_impl_natCmp_0 x
noncomputable def E_q36 : Env := ⟨layD, [], [(6, mkLM D_q36_0 S_q36_0_w)], [(8, [(0, []), (1, []), (2, []), (3, []), (4, []), (5, []), (6, []), (7, []), (8, []), (9, [8, 3, 7, 2, 6, 0, 1, 4, 5])]), (10, [(0, []), (1, []), (2, []), (3, []), (4, []), (5, []), (6, []), (7, []), (8, []), (9, [8, 3, 7, 2, 6, 0, 1, 4, 5])])]⟩
theorem cons_q36 : ConsOk Try.prog E_q36.cons := consOk_nil
theorem S_q36_0_ok (x : Tys D_q36_0.head.ks) : stepL E_q36 D_q36_0 body_q36_0 x = S_impl_natCmp_0 x := by kernel_rfl
theorem loops_q36_0 : loopsIn body_q36_0 = [] := by kernel_rfl
theorem l_q36_0 : LoopOk Try.prog (mkLM D_q36_0 S_q36_0_w) body_q36_0 := loop_ok2 mix layD_ok cons_q36 (by kernel_rfl) (loops_mem loops_q36_0 (trivial)) S_q36_0_ok fun _ _ h => h
theorem loops_q36 : loopsIn code_q36 = [body_q36_0] := by kernel_rfl
theorem m_q36 : Meets Try.prog 104 c_q36 := meets_of (E := E_q36) (code := code_q36) mix layD_ok cons_q36 Try.func104 (by kernel_rfl) sg_q36 (by kernel_rfl) (fun y => y.1) c_q36.out (fun _ => rfl) c_q36.run (fun x => by kernel_rfl) (by kernel_rfl) (loops_mem loops_q36 (⟨⟨_, by kernel_rfl, l_q36_0⟩, trivial⟩))
noncomputable def sg_q37 : Sig := ⟨[(false, [.d (.sl .int)])], [], false, [(false, [.own 0])], [(0, .arr false .int)]⟩
noncomputable def c_q37 : Con := ⟨sg_q37, List Int, fun x => M_impl_copyInts x.1, fun r => (r, ())⟩
noncomputable def code_q37 : Code := Try.f37.body.getD .skip
noncomputable def E_q37 : Env := ⟨layD, [], [], []⟩
theorem cons_q37 : ConsOk Try.prog E_q37.cons := consOk_nil
theorem loops_q37 : loopsIn code_q37 = [] := by kernel_rfl
theorem m_q37 : Meets Try.prog 37 c_q37 := meets_of (E := E_q37) (code := code_q37) mix layD_ok cons_q37 Try.func37 (by kernel_rfl) sg_q37 (by kernel_rfl) (fun y => y.1) c_q37.out (fun _ => rfl) c_q37.run (fun x => by kernel_rfl) (by kernel_rfl) (loops_mem loops_q37 (trivial))
noncomputable def sg_q38 : Sig := ⟨[(false, [.own 0])], [(0, .arr false .int)], false, [(false, [.own 0])], [(0, .arr false .int)]⟩
noncomputable def c_q38 : Con := ⟨sg_q38, List Int, fun x => M_impl_trim_c x.1, fun r => (r, ())⟩
noncomputable def code_q38 : Code := Try.f90.body.getD .skip
noncomputable def body_q38_0 : Code := (loopsIn code_q38).getD 0 .skip
noncomputable def D_q38_0 : LoopD := ⟨⟨mkSlots [(0, false, [.own 1408]), (3, false, [.d (.int .i64)])] 21 0, [(1408, .arr false .int)]⟩, [], [(.exit 0, ⟨mkSlots [(0, false, [.own 1408]), (3, false, [.d (.int .i64)])] 21 0, [(1408, .arr false .int)]⟩, [])]⟩
noncomputable def S_q38_0_w (x : Tys D_q38_0.head.ks) : Option (OutT D_q38_0.outs) := @whileO (Int × (List Int) × Unit) (Int × (List Int) × Unit) S_impl_trim_c_0 x
noncomputable def E_q38 : Env := ⟨layD, [], [(2, mkLM D_q38_0 S_q38_0_w)], []⟩
theorem cons_q38 : ConsOk Try.prog E_q38.cons := consOk_nil
theorem S_q38_0_ok (x : Tys D_q38_0.head.ks) : stepL E_q38 D_q38_0 body_q38_0 x = S_impl_trim_c_0 x := by kernel_rfl
theorem loops_q38_0 : loopsIn body_q38_0 = [] := by kernel_rfl
theorem l_q38_0 : LoopOk Try.prog (mkLM D_q38_0 S_q38_0_w) body_q38_0 := loop_ok2 mix layD_ok cons_q38 (by kernel_rfl) (loops_mem loops_q38_0 (trivial)) S_q38_0_ok fun _ _ h => h
theorem loops_q38 : loopsIn code_q38 = [body_q38_0] := by kernel_rfl
theorem m_q38 : Meets Try.prog 90 c_q38 := meets_of (E := E_q38) (code := code_q38) mix layD_ok cons_q38 Try.func90 (by kernel_rfl) sg_q38 (by kernel_rfl) (fun y => y.1) c_q38.out (fun _ => rfl) c_q38.run (fun x => by kernel_rfl) (by kernel_rfl) (loops_mem loops_q38 (⟨⟨_, by kernel_rfl, l_q38_0⟩, trivial⟩))
noncomputable def sg_q39 : Sig := ⟨[(false, [.d (.int .i64)])], [], false, [(false, [.own 0])], [(0, .arr false .int)]⟩
noncomputable def c_q39 : Con := ⟨sg_q39, List Int, fun x => M_impl_NatOf x.1, fun r => (r, ())⟩
noncomputable def code_q39 : Code := Try.f102.body.getD .skip
noncomputable def body_q39_0 : Code := (loopsIn code_q39).getD 0 .skip
noncomputable def D_q39_0 : LoopD := ⟨⟨mkSlots [(0, false, [.d (.int .i64)]), (3, false, [.own 960])] 14 0, [(960, .arr false .int)]⟩, [(.slot 3 0, 960, .int)], [(.exit 0, ⟨mkSlots [(3, false, [.own 960])] 14 0, [(960, .arr false .int)]⟩, [(.slot 3 0, 960, .int)])]⟩
noncomputable def S_q39_0_w (x : Tys D_q39_0.head.ks) : Option (OutT D_q39_0.outs) := @whileO (Int × (List Int) × Unit) ((List Int) × Unit) S_impl_NatOf_0 x
noncomputable def E_q39 : Env := ⟨layD, [], [(2, mkLM D_q39_0 S_q39_0_w)], []⟩
theorem cons_q39 : ConsOk Try.prog E_q39.cons := consOk_nil
theorem S_q39_0_ok (x : Tys D_q39_0.head.ks) : stepL E_q39 D_q39_0 body_q39_0 x = S_impl_NatOf_0 x := by kernel_rfl
theorem loops_q39_0 : loopsIn body_q39_0 = [] := by kernel_rfl
theorem l_q39_0 : LoopOk Try.prog (mkLM D_q39_0 S_q39_0_w) body_q39_0 := loop_ok2 mix layD_ok cons_q39 (by kernel_rfl) (loops_mem loops_q39_0 (trivial)) S_q39_0_ok fun _ _ h => h
theorem loops_q39 : loopsIn code_q39 = [body_q39_0] := by kernel_rfl
theorem m_q39 : Meets Try.prog 102 c_q39 := meets_of (E := E_q39) (code := code_q39) mix layD_ok cons_q39 Try.func102 (by kernel_rfl) sg_q39 (by kernel_rfl) (fun y => y.1) c_q39.out (fun _ => rfl) c_q39.run (fun x => by kernel_rfl) (by kernel_rfl) (loops_mem loops_q39 (⟨⟨_, by kernel_rfl, l_q39_0⟩, trivial⟩))
noncomputable def sg_q40 : Sig := ⟨[(false, [.d (.sl .int)]), (false, [.d (.int .i64)])], [], true, [(false, [.own 0]), (false, [.own 1])], [(0, .arr false .int), (1, .arr false .int)]⟩
noncomputable def c_q40 : Con := ⟨sg_q40, List Int × List Int, fun x => M_impl_divSmall x.1 x.2.1, fun r => (r.1, r.2, ())⟩
noncomputable def code_q40 : Code := Try.f105.body.getD .skip
noncomputable def body_q40_0 : Code := (loopsIn code_q40).getD 0 .skip
noncomputable def D_q40_0 : LoopD := ⟨⟨mkSlots [(0, false, [.d (.sl .int)]), (1, false, [.d (.int .i64)]), (6, false, [.own 2624]), (7, false, [.d (.int .i64)]), (8, false, [.d (.int .i64)])] 40 0, [(2624, .arr false .int)]⟩, [], [(.exit 0, ⟨mkSlots [(6, false, [.own 2624]), (7, false, [.d (.int .i64)])] 40 0, [(2624, .arr false .int)]⟩, [])]⟩
noncomputable def S_q40_0_w (x : Tys D_q40_0.head.ks) : Option (OutT D_q40_0.outs) := @whileO ((List Int) × Int × Int × Int × (List Int) × Unit) (Int × (List Int) × Unit) S_impl_divSmall_0 x
noncomputable def E_q40 : Env := ⟨layD, [(90, c_q38), (102, c_q39)], [(4, mkLM D_q40_0 S_q40_0_w)], []⟩
theorem cons_q40 : ConsOk Try.prog E_q40.cons := consOk_cons m_q38 (callable_of Try.func90 (by kernel_rfl)) (consOk_cons m_q39 (callable_of Try.func102 (by kernel_rfl)) (consOk_nil))
theorem S_q40_0_ok (x : Tys D_q40_0.head.ks) : stepL E_q40 D_q40_0 body_q40_0 x = S_impl_divSmall_0 x := by kernel_rfl
theorem loops_q40_0 : loopsIn body_q40_0 = [] := by kernel_rfl
theorem l_q40_0 : LoopOk Try.prog (mkLM D_q40_0 S_q40_0_w) body_q40_0 := loop_ok2 mix layD_ok cons_q40 (by kernel_rfl) (loops_mem loops_q40_0 (trivial)) S_q40_0_ok fun _ _ h => h
theorem loops_q40 : loopsIn code_q40 = [body_q40_0] := by kernel_rfl
theorem m_q40 : Meets Try.prog 105 c_q40 := meets_of (E := E_q40) (code := code_q40) mix layD_ok cons_q40 Try.func105 (by kernel_rfl) sg_q40 (by kernel_rfl) (fun y => (y.1, y.2.1)) c_q40.out (fun _ => rfl) c_q40.run (fun x => by kernel_rfl) (by kernel_rfl) (loops_mem loops_q40 (⟨⟨_, by kernel_rfl, l_q40_0⟩, trivial⟩))
noncomputable def sg_q41 : Sig := ⟨[(false, [.d (.sl .int)]), (false, [.d (.sl .int)])], [], false, [(false, [.own 0])], [(0, .arr false .int)]⟩
noncomputable def c_q41 : Con := ⟨sg_q41, List Int, fun x => M_impl_natMul x.1 x.2.1, fun r => (r, ())⟩
noncomputable def code_q41 : Code := Try.f67.body.getD .skip
noncomputable def body_q41_0 : Code := (loopsIn code_q41).getD 0 .skip
noncomputable def body_q41_1 : Code := (loopsIn body_q41_0).getD 0 .skip
noncomputable def D_q41_0 : LoopD := ⟨⟨mkSlots [(1, false, [.d (.sl .int)]), (5, false, [.own 4352]), (18, false, [.d (.sl .int)]), (19, false, [.d (.int .i64)]), (20, false, [.d (.int .i64)])] 67 0, [(4352, .arr false .int)]⟩, [], [(.exit 0, ⟨mkSlots [(5, false, [.own 4352])] 67 0, [(4352, .arr false .int)]⟩, [])]⟩
noncomputable def D_q41_1 : LoopD := ⟨⟨mkSlots [(1, false, [.d (.sl .int)]), (5, false, [.own 4352]), (6, false, [.d (.int .i64)]), (7, false, [.d (.int .i64)]), (8, false, [.d (.int .i64)]), (18, false, [.d (.sl .int)]), (19, false, [.d (.int .i64)]), (20, false, [.d (.int .i64)]), (25, false, [.d (.sl .int)]), (26, false, [.d (.int .i64)]), (27, false, [.d (.int .i64)])] 67 0, [(4352, .arr false .int)]⟩, [], [(.exit 2, ⟨mkSlots [(1, false, [.d (.sl .int)]), (5, false, [.own 4352]), (6, false, [.d (.int .i64)]), (8, false, [.d (.int .i64)]), (18, false, [.d (.sl .int)]), (19, false, [.d (.int .i64)]), (20, false, [.d (.int .i64)])] 67 0, [(4352, .arr false .int)]⟩, [])]⟩
noncomputable def S_q41_0_w (x : Tys D_q41_0.head.ks) : Option (OutT D_q41_0.outs) := @whileO ((List Int) × (List Int) × Int × Int × (List Int) × Unit) ((List Int) × Unit) S_impl_natMul_0 x
noncomputable def S_q41_1_w (x : Tys D_q41_1.head.ks) : Option (OutT D_q41_1.outs) := @whileO ((List Int) × Int × Int × Int × (List Int) × Int × Int × (List Int) × Int × Int × (List Int) × Unit) ((List Int) × Int × Int × (List Int) × Int × Int × (List Int) × Unit) S_impl_natMul_1 x
noncomputable def E_q41 : Env := ⟨layD, [(90, c_q38)], [(3, mkLM D_q41_0 S_q41_0_w), (7, mkLM D_q41_1 S_q41_1_w)], []⟩
theorem cons_q41 : ConsOk Try.prog E_q41.cons := consOk_cons m_q38 (callable_of Try.func90 (by kernel_rfl)) (consOk_nil)
theorem S_q41_1_ok (x : Tys D_q41_1.head.ks) : stepL E_q41 D_q41_1 body_q41_1 x = S_impl_natMul_1 x := by kernel_rfl
theorem loops_q41_1 : loopsIn body_q41_1 = [] := by kernel_rfl
theorem l_q41_1 : LoopOk Try.prog (mkLM D_q41_1 S_q41_1_w) body_q41_1 := loop_ok2 mix layD_ok cons_q41 (by kernel_rfl) (loops_mem loops_q41_1 (trivial)) S_q41_1_ok fun _ _ h => h
theorem S_q41_0_ok (x : Tys D_q41_0.head.ks) : stepL E_q41 D_q41_0 body_q41_0 x = S_impl_natMul_0 x := by kernel_rfl
theorem loops_q41_0 : loopsIn body_q41_0 = [body_q41_1] := by kernel_rfl
theorem l_q41_0 : LoopOk Try.prog (mkLM D_q41_0 S_q41_0_w) body_q41_0 := loop_ok2 mix layD_ok cons_q41 (by kernel_rfl) (loops_mem loops_q41_0 (⟨⟨_, by kernel_rfl, l_q41_1⟩, trivial⟩)) S_q41_0_ok fun _ _ h => h
theorem loops_q41 : loopsIn code_q41 = [body_q41_0] := by kernel_rfl
theorem m_q41 : Meets Try.prog 67 c_q41 := meets_of (E := E_q41) (code := code_q41) mix layD_ok cons_q41 Try.func67 (by kernel_rfl) sg_q41 (by kernel_rfl) (fun y => y.1) c_q41.out (fun _ => rfl) c_q41.run (fun x => by kernel_rfl) (by kernel_rfl) (loops_mem loops_q41 (⟨⟨_, by kernel_rfl, l_q41_0⟩, trivial⟩))
noncomputable def sg_q42 : Sig := ⟨[(false, [.d (.sl .int)]), (false, [.d (.sl .int)])], [], true, [(false, [.own 0]), (false, [.own 1])], [(0, .arr false .int), (1, .arr false .int)]⟩
noncomputable def c_q42 : Con := ⟨sg_q42, List Int × List Int, fun x => M_impl_natDiv x.1 x.2.1, fun r => (r.1, r.2, ())⟩
noncomputable def code_q42 : Code := Try.f88.body.getD .skip
noncomputable def body_q42_0 : Code := (loopsIn code_q42).getD 0 .skip
noncomputable def body_q42_1 : Code := (loopsIn code_q42).getD 1 .skip
noncomputable def body_q42_2 : Code := (loopsIn body_q42_1).getD 0 .skip
noncomputable def body_q42_3 : Code := (loopsIn body_q42_1).getD 1 .skip
noncomputable def body_q42_4 : Code := (loopsIn body_q42_1).getD 2 .skip
noncomputable def D_q42_0 : LoopD := ⟨⟨mkSlots [(0, false, [.d (.sl .int)]), (6, false, [.d (.int .i64)]), (7, false, [.own 15360]), (8, false, [.own 15424]), (9, false, [.d (.int .i64)])] 239 0, [(15360, .arr false .int), (15424, .arr false .int)]⟩, [], [(.exit 0, ⟨mkSlots [(6, false, [.d (.int .i64)]), (7, false, [.own 15360]), (8, false, [.own 15424]), (9, false, [.d (.int .i64)])] 239 0, [(15360, .arr false .int), (15424, .arr false .int)]⟩, [])]⟩
noncomputable def D_q42_1 : LoopD := ⟨⟨mkSlots [(6, false, [.d (.int .i64)]), (7, false, [.own 15360]), (8, false, [.own 15424]), (9, false, [.d (.int .i64)]), (10, false, [.own 15488]), (11, false, [.d (.int .i64)]), (12, false, [.d (.int .i64)])] 239 0, [(15360, .arr false .int), (15424, .arr false .int), (15488, .arr false .int)]⟩, [], [(.exit 2, ⟨mkSlots [(6, false, [.d (.int .i64)]), (7, false, [.own 15360]), (10, false, [.own 15488])] 239 0, [(15360, .arr false .int), (15488, .arr false .int)]⟩, [])]⟩
noncomputable def D_q42_2 : LoopD := ⟨⟨mkSlots [(6, false, [.d (.int .i64)]), (7, false, [.own 15360]), (8, false, [.own 15424]), (9, false, [.d (.int .i64)]), (10, false, [.own 15488]), (11, false, [.d (.int .i64)]), (12, false, [.d (.int .i64)]), (14, false, [.d (.int .i64)]), (15, false, [.d (.int .i64)])] 239 0, [(15360, .arr false .int), (15424, .arr false .int), (15488, .arr false .int)]⟩, [], [(.exit 4, ⟨mkSlots [(6, false, [.d (.int .i64)]), (7, false, [.own 15360]), (8, false, [.own 15424]), (9, false, [.d (.int .i64)]), (10, false, [.own 15488]), (11, false, [.d (.int .i64)]), (12, false, [.d (.int .i64)]), (14, false, [.d (.int .i64)])] 239 0, [(15360, .arr false .int), (15424, .arr false .int), (15488, .arr false .int)]⟩, [])]⟩
noncomputable def D_q42_3 : LoopD := ⟨⟨mkSlots [(6, false, [.d (.int .i64)]), (7, false, [.own 15360]), (8, false, [.own 15424]), (9, false, [.d (.int .i64)]), (10, false, [.own 15488]), (11, false, [.d (.int .i64)]), (12, false, [.d (.int .i64)]), (14, false, [.d (.int .i64)]), (16, false, [.d (.int .i64)]), (135, false, [.d (.int .i64)]), (136, false, [.d (.int .i64)])] 239 0, [(15360, .arr false .int), (15424, .arr false .int), (15488, .arr false .int)]⟩, [], [(.exit 6, ⟨mkSlots [(6, false, [.d (.int .i64)]), (7, false, [.own 15360]), (8, false, [.own 15424]), (9, false, [.d (.int .i64)]), (10, false, [.own 15488]), (11, false, [.d (.int .i64)]), (12, false, [.d (.int .i64)]), (14, false, [.d (.int .i64)]), (16, false, [.d (.int .i64)])] 239 0, [(15360, .arr false .int), (15424, .arr false .int), (15488, .arr false .int)]⟩, [])]⟩
noncomputable def D_q42_4 : LoopD := ⟨⟨mkSlots [(6, false, [.d (.int .i64)]), (7, false, [.own 15360]), (8, false, [.own 15424]), (9, false, [.d (.int .i64)]), (10, false, [.own 15488]), (11, false, [.d (.int .i64)]), (12, false, [.d (.int .i64)]), (14, false, [.d (.int .i64)]), (19, false, [.d (.int .i64)]), (188, false, [.d (.int .i64)]), (189, false, [.d (.int .i64)])] 239 0, [(15360, .arr false .int), (15424, .arr false .int), (15488, .arr false .int)]⟩, [], [(.exit 8, ⟨mkSlots [(6, false, [.d (.int .i64)]), (7, false, [.own 15360]), (8, false, [.own 15424]), (9, false, [.d (.int .i64)]), (10, false, [.own 15488]), (11, false, [.d (.int .i64)]), (12, false, [.d (.int .i64)]), (14, false, [.d (.int .i64)]), (19, false, [.d (.int .i64)])] 239 0, [(15360, .arr false .int), (15424, .arr false .int), (15488, .arr false .int)]⟩, [])]⟩
noncomputable def S_q42_0_w (x : Tys D_q42_0.head.ks) : Option (OutT D_q42_0.outs) := @whileO ((List Int) × Int × Int × (List Int) × (List Int) × Unit) (Int × Int × (List Int) × (List Int) × Unit) S_impl_natDiv_0 x
noncomputable def S_q42_1_w (x : Tys D_q42_1.head.ks) : Option (OutT D_q42_1.outs) := @whileO (Int × Int × Int × Int × (List Int) × (List Int) × (List Int) × Unit) (Int × (List Int) × (List Int) × Unit) S_impl_natDiv_1 x
noncomputable def S_q42_2_w (x : Tys D_q42_2.head.ks) : Option (OutT D_q42_2.outs) := @whileO (Int × Int × Int × Int × Int × Int × (List Int) × (List Int) × (List Int) × Unit) (Int × Int × Int × Int × Int × (List Int) × (List Int) × (List Int) × Unit) S_impl_natDiv_2 x
noncomputable def S_q42_3_w (x : Tys D_q42_3.head.ks) : Option (OutT D_q42_3.outs) := @whileO (Int × Int × Int × Int × Int × Int × Int × Int × (List Int) × (List Int) × (List Int) × Unit) (Int × Int × Int × Int × Int × Int × (List Int) × (List Int) × (List Int) × Unit) S_impl_natDiv_3 x
noncomputable def S_q42_4_w (x : Tys D_q42_4.head.ks) : Option (OutT D_q42_4.outs) := @whileO (Int × Int × Int × Int × Int × Int × Int × Int × (List Int) × (List Int) × (List Int) × Unit) (Int × Int × Int × Int × Int × Int × (List Int) × (List Int) × (List Int) × Unit) S_impl_natDiv_4 x
noncomputable def E_q42 : Env := ⟨layD, [(104, c_q36), (37, c_q37), (105, c_q40), (67, c_q41), (90, c_q38)], [(9, mkLM D_q42_0 S_q42_0_w), (14, mkLM D_q42_1 S_q42_1_w), (18, mkLM D_q42_2 S_q42_2_w), (24, mkLM D_q42_3 S_q42_3_w), (38, mkLM D_q42_4 S_q42_4_w)], [(16, [(0, []), (1, []), (2, []), (3, []), (4, []), (5, []), (6, []), (7, []), (8, []), (9, []), (10, []), (11, []), (12, []), (13, []), (14, []), (15, [14, 0, 1, 2, 3, 4, 5, 6, 7, 8, 9, 10, 11, 12, 13])]), (17, [(0, []), (1, []), (2, []), (3, []), (4, []), (5, []), (6, [2, 0, 1]), (7, [5, 6, 0, 1, 2, 3, 4])]), (18, [(0, []), (1, []), (2, []), (3, []), (4, []), (5, []), (6, []), (7, []), (8, []), (9, []), (10, []), (11, []), (12, []), (13, []), (14, []), (15, []), (16, []), (17, []), (18, []), (19, []), (20, []), (21, [])]), (26, [(0, []), (1, []), (2, []), (3, []), (4, []), (5, []), (6, []), (7, []), (8, []), (9, []), (10, []), (11, []), (12, []), (13, []), (14, []), (15, [14, 0, 1, 2, 3, 4, 5, 6, 7, 8, 9, 10, 11, 12, 13])]), (40, [(0, []), (1, []), (2, []), (3, []), (4, []), (5, []), (6, []), (7, []), (8, []), (9, []), (10, []), (11, []), (12, []), (13, [12, 0, 1, 2, 3, 4, 5, 6, 7, 8, 9, 10, 11])])]⟩
theorem cons_q42 : ConsOk Try.prog E_q42.cons := consOk_cons m_q36 (callable_of Try.func104 (by kernel_rfl)) (consOk_cons m_q37 (callable_of Try.func37 (by kernel_rfl)) (consOk_cons m_q40 (callable_of Try.func105 (by kernel_rfl)) (consOk_cons m_q41 (callable_of Try.func67 (by kernel_rfl)) (consOk_cons m_q38 (callable_of Try.func90 (by kernel_rfl)) (consOk_nil)))))
theorem S_q42_4_ok (x : Tys D_q42_4.head.ks) : stepL E_q42 D_q42_4 body_q42_4 x = S_impl_natDiv_4 x := by kernel_rfl
theorem loops_q42_4 : loopsIn body_q42_4 = [] := by kernel_rfl
theorem l_q42_4 : LoopOk Try.prog (mkLM D_q42_4 S_q42_4_w) body_q42_4 := loop_ok2 mix layD_ok cons_q42 (by kernel_rfl) (loops_mem loops_q42_4 (trivial)) S_q42_4_ok fun _ _ h => h
theorem S_q42_3_ok (x : Tys D_q42_3.head.ks) : stepL E_q42 D_q42_3 body_q42_3 x = S_impl_natDiv_3 x := by kernel_rfl
theorem loops_q42_3 : loopsIn body_q42_3 = [] := by kernel_rfl
theorem l_q42_3 : LoopOk Try.prog (mkLM D_q42_3 S_q42_3_w) body_q42_3 := loop_ok2 mix layD_ok cons_q42 (by kernel_rfl) (loops_mem loops_q42_3 (trivial)) S_q42_3_ok fun _ _ h => h
theorem S_q42_2_ok (x : Tys D_q42_2.head.ks) : stepL E_q42 D_q42_2 body_q42_2 x = S_impl_natDiv_2 x := by kernel_rfl
theorem loops_q42_2 : loopsIn body_q42_2 = [] := by kernel_rfl
theorem l_q42_2 : LoopOk Try.prog (mkLM D_q42_2 S_q42_2_w) body_q42_2 := loop_ok2 mix layD_ok cons_q42 (by kernel_rfl) (loops_mem loops_q42_2 (trivial)) S_q42_2_ok fun _ _ h => h
theorem S_q42_1_ok (x : Tys D_q42_1.head.ks) : stepL E_q42 D_q42_1 body_q42_1 x = S_impl_natDiv_1 x := by kernel_rfl
theorem loops_q42_1 : loopsIn body_q42_1 = [body_q42_2, body_q42_3, body_q42_4] := by kernel_rfl
theorem l_q42_1 : LoopOk Try.prog (mkLM D_q42_1 S_q42_1_w) body_q42_1 := loop_ok2 mix layD_ok cons_q42 (by kernel_rfl) (loops_mem loops_q42_1 (⟨⟨_, by kernel_rfl, l_q42_2⟩, ⟨⟨_, by kernel_rfl, l_q42_3⟩, ⟨⟨_, by kernel_rfl, l_q42_4⟩, trivial⟩⟩⟩)) S_q42_1_ok fun _ _ h => h
theorem S_q42_0_ok (x : Tys D_q42_0.head.ks) : stepL E_q42 D_q42_0 body_q42_0 x = S_impl_natDiv_0 x := by kernel_rfl
theorem loops_q42_0 : loopsIn body_q42_0 = [] := by kernel_rfl
theorem l_q42_0 : LoopOk Try.prog (mkLM D_q42_0 S_q42_0_w) body_q42_0 := loop_ok2 mix layD_ok cons_q42 (by kernel_rfl) (loops_mem loops_q42_0 (trivial)) S_q42_0_ok fun _ _ h => h
theorem loops_q42 : loopsIn code_q42 = [body_q42_0, body_q42_1] := by kernel_rfl
theorem m_q42 : Meets Try.prog 88 c_q42 := meets_of (E := E_q42) (code := code_q42) mix layD_ok cons_q42 Try.func88 (by kernel_rfl) sg_q42 (by kernel_rfl) (fun y => (y.1, y.2.1)) c_q42.out (fun _ => rfl) c_q42.run (fun x => by kernel_rfl) (by kernel_rfl) (loops_mem loops_q42 (⟨⟨_, by kernel_rfl, l_q42_0⟩, ⟨⟨_, by kernel_rfl, l_q42_1⟩, trivial⟩⟩))
noncomputable def sg_q43 : Sig := ⟨[(false, [.d (.sl .int)]), (false, [.d (.sl .int)])], [], false, [(false, [.own 0])], [(0, .arr false .int)]⟩
noncomputable def c_q43 : Con := ⟨sg_q43, List Int, fun x => M_impl_natGcd x.1 x.2.1, fun r => (r, ())⟩
noncomputable def code_q43 : Code := Try.f62.body.getD .skip
noncomputable def body_q43_0 : Code := (loopsIn code_q43).getD 0 .skip
noncomputable def body_q43_1 : Code := (loopsIn code_q43).getD 1 .skip
noncomputable def D_q43_0 : LoopD := ⟨⟨mkSlots [(0, false, [.d (.sl .int)]), (1, false, [.d (.sl .int)])] 49 0, []⟩, [], [(.exit 0, ⟨mkSlots [(0, false, [.d (.sl .int)]), (1, false, [.d (.sl .int)])] 49 0, []⟩, [])]⟩
noncomputable def D_q43_1 : LoopD := ⟨⟨mkSlots [(7, false, [.d (.int .i64)]), (8, false, [.d (.int .i64)])] 49 0, []⟩, [], [(.exit 2, ⟨mkSlots [(7, false, [.d (.int .i64)])] 49 0, []⟩, [])]⟩
noncomputable def S_q43_0_w (x : Tys D_q43_0.head.ks) : Option (OutT D_q43_0.outs) := @whileO ((List Int) × (List Int) × Unit) ((List Int) × (List Int) × Unit) S_impl_natGcd_0 x
noncomputable def S_q43_1_w (x : Tys D_q43_1.head.ks) : Option (OutT D_q43_1.outs) := @whileO (Int × Int × Unit) (Int × Unit) S_impl_natGcd_1 x
noncomputable def E_q43 : Env := ⟨layD, [(88, c_q42), (37, c_q37)], [(1, mkLM D_q43_0 S_q43_0_w), (7, mkLM D_q43_1 S_q43_1_w)], [(6, [(0, []), (1, []), (2, []), (3, []), (4, []), (5, []), (6, [2, 0, 1]), (7, [5, 6, 0, 1, 2, 3, 4])]), (8, [(0, []), (1, []), (2, []), (3, []), (4, [0, 1]), (5, [3, 4, 0, 1, 2])])]⟩
theorem cons_q43 : ConsOk Try.prog E_q43.cons := consOk_cons m_q42 (callable_of Try.func88 (by kernel_rfl)) (consOk_cons m_q37 (callable_of Try.func37 (by kernel_rfl)) (consOk_nil))
theorem S_q43_1_ok (x : Tys D_q43_1.head.ks) : stepL E_q43 D_q43_1 body_q43_1 x = S_impl_natGcd_1 x := by kernel_rfl
theorem loops_q43_1 : loopsIn body_q43_1 = [] := by kernel_rfl
theorem l_q43_1 : LoopOk Try.prog (mkLM D_q43_1 S_q43_1_w) body_q43_1 := loop_ok2 mix layD_ok cons_q43 (by kernel_rfl) (loops_mem loops_q43_1 (trivial)) S_q43_1_ok fun _ _ h => h
theorem S_q43_0_ok (x : Tys D_q43_0.head.ks) : stepL E_q43 D_q43_0 body_q43_0 x = S_impl_natGcd_0 x := by kernel_rfl
theorem loops_q43_0 : loopsIn body_q43_0 = [] := by kernel_rfl
theorem l_q43_0 : LoopOk Try.prog (mkLM D_q43_0 S_q43_0_w) body_q43_0 := loop_ok2 mix layD_ok cons_q43 (by kernel_rfl) (loops_mem loops_q43_0 (trivial)) S_q43_0_ok fun _ _ h => h
theorem loops_q43 : loopsIn code_q43 = [body_q43_0, body_q43_1] := by kernel_rfl
theorem m_q43 : Meets Try.prog 62 c_q43 := meets_of (E := E_q43) (code := code_q43) mix layD_ok cons_q43 Try.func62 (by kernel_rfl) sg_q43 (by kernel_rfl) (fun y => y.1) c_q43.out (fun _ => rfl) c_q43.run (fun x => by kernel_rfl) (by kernel_rfl) (loops_mem loops_q43 (⟨⟨_, by kernel_rfl, l_q43_0⟩, ⟨⟨_, by kernel_rfl, l_q43_1⟩, trivial⟩⟩))
noncomputable def sg_q44 : Sig := ⟨[(false, [.d (.sl .int)])], [], false, [(false, [.d (.bool)])], []⟩
noncomputable def c_q44 : Con := ⟨sg_q44, Bool, fun x => M_impl_isOne x.1, fun r => (r, ())⟩
noncomputable def code_q44 : Code := Try.f61.body.getD .skip
noncomputable def E_q44 : Env := ⟨layD, [], [], []⟩
theorem cons_q44 : ConsOk Try.prog E_q44.cons := consOk_nil
theorem loops_q44 : loopsIn code_q44 = [] := by kernel_rfl
theorem m_q44 : Meets Try.prog 61 c_q44 := meets_of (E := E_q44) (code := code_q44) mix layD_ok cons_q44 Try.func61 (by kernel_rfl) sg_q44 (by kernel_rfl) (fun y => y.1) c_q44.out (fun _ => rfl) c_q44.run (fun x => by kernel_rfl) (by kernel_rfl) (loops_mem loops_q44 (trivial))
noncomputable def sg_q45 : Sig := ⟨[(true, [.d (.bool), .d (.sl .int), .d (.sl .int)])], [], false, [(false, [.d (.bool)])], []⟩
noncomputable def c_q45 : Con := ⟨sg_q45, Bool, fun x => M_impl_RatOk (⟨x.1, x.2.1, x.2.2.1⟩ : Rt), fun r => (r, ())⟩
noncomputable def code_q45 : Code := Try.f39.body.getD .skip
noncomputable def E_q45 : Env := ⟨layD, [(59, c_q35), (60, c_q34), (62, c_q43), (61, c_q44)], [], []⟩
theorem cons_q45 : ConsOk Try.prog E_q45.cons := consOk_cons m_q35 (callable_of Try.func59 (by kernel_rfl)) (consOk_cons m_q34 (callable_of Try.func60 (by kernel_rfl)) (consOk_cons m_q43 (callable_of Try.func62 (by kernel_rfl)) (consOk_cons m_q44 (callable_of Try.func61 (by kernel_rfl)) (consOk_nil))))
theorem loops_q45 : loopsIn code_q45 = [] := by kernel_rfl
theorem m_q45 : Meets Try.prog 39 c_q45 := meets_of (E := E_q45) (code := code_q45) mix layD_ok cons_q45 Try.func39 (by kernel_rfl) sg_q45 (by kernel_rfl) (fun y => y.1) c_q45.out (fun _ => rfl) c_q45.run (fun x => by kernel_rfl) (by kernel_rfl) (loops_mem loops_q45 (trivial))
noncomputable def sg_q46 : Sig := ⟨[(true, [.d (.int .i64), .d (.int .i64), .d (.sl .rat)])], [], false, [(false, [.d (.bool)])], []⟩
noncomputable def c_q46 : Con := ⟨sg_q46, Bool, fun x => M_impl_MatrixOk (⟨x.1, x.2.1, x.2.2.1⟩ : Mx), fun r => (r, ())⟩
noncomputable def code_q46 : Code := Try.f22.body.getD .skip
noncomputable def body_q46_0 : Code := (loopsIn code_q46).getD 0 .skip
noncomputable def D_q46_0 : LoopD := ⟨⟨mkSlots [(27, false, [.d (.sl .rat)]), (28, false, [.d (.int .i64)]), (29, false, [.d (.int .i64)])] 37 0, []⟩, [], [(.ret, ⟨mkSlots [(2, false, [.d (.bool)])] 37 0, []⟩, []), (.exit 0, ⟨mkSlots [] 37 0, []⟩, [])]⟩
noncomputable def S_q46_0_w (x : Tys D_q46_0.head.ks) : Option (OutT D_q46_0.outs) := @whileO ((List Rt) × Int × Int × Unit) ((Bool × Unit) ⊕ (Unit)) S_impl_MatrixOk_0 x
noncomputable def E_q46 : Env := ⟨layD, [(38, c_q33), (39, c_q45)], [(4, mkLM D_q46_0 S_q46_0_w)], []⟩
theorem cons_q46 : ConsOk Try.prog E_q46.cons := consOk_cons m_q33 (callable_of Try.func38 (by kernel_rfl)) (consOk_cons m_q45 (callable_of Try.func39 (by kernel_rfl)) (consOk_nil))
theorem S_q46_0_ok (x : Tys D_q46_0.head.ks) : stepL E_q46 D_q46_0 body_q46_0 x = S_impl_MatrixOk_0 x := by kernel_rfl
theorem loops_q46_0 : loopsIn body_q46_0 = [] := by kernel_rfl
theorem l_q46_0 : LoopOk Try.prog (mkLM D_q46_0 S_q46_0_w) body_q46_0 := loop_ok2 mix layD_ok cons_q46 (by kernel_rfl) (loops_mem loops_q46_0 (trivial)) S_q46_0_ok fun _ _ h => h
theorem loops_q46 : loopsIn code_q46 = [body_q46_0] := by kernel_rfl
theorem m_q46 : Meets Try.prog 22 c_q46 := meets_of (E := E_q46) (code := code_q46) mix layD_ok cons_q46 Try.func22 (by kernel_rfl) sg_q46 (by kernel_rfl) (fun y => y.1) c_q46.out (fun _ => rfl) c_q46.run (fun x => by kernel_rfl) (by kernel_rfl) (loops_mem loops_q46 (⟨⟨_, by kernel_rfl, l_q46_0⟩, trivial⟩))
noncomputable def sg_q47 : Sig := ⟨[(true, [.d (.bool), .d (.sl .int), .d (.sl .int)])], [], false, [(true, [.d (.bool), .own 0, .own 1])], [(0, .arr false .int), (1, .arr false .int)]⟩
noncomputable def c_q47 : Con := ⟨sg_q47, Rt, fun x => M_impl_copyRat (⟨x.1, x.2.1, x.2.2.1⟩ : Rt), fun r => (r.neg, r.mag, r.den, ())⟩
noncomputable def code_q47 : Code := Try.f63.body.getD .skip
noncomputable def E_q47 : Env := ⟨layD, [(37, c_q37)], [], [(1, [(0, []), (1, []), (2, []), (3, []), (4, []), (5, []), (8, []), (9, []), (6, [5, 4, 3]), (7, []), (10, [9, 6, 8, 5, 4, 3]), (11, []), (12, [11, 10, 0, 1, 2, 3, 4, 5, 6, 7, 8, 9])])]⟩
theorem cons_q47 : ConsOk Try.prog E_q47.cons := consOk_cons m_q37 (callable_of Try.func37 (by kernel_rfl)) (consOk_nil)
theorem loops_q47 : loopsIn code_q47 = [] := by kernel_rfl
theorem m_q47 : Meets Try.prog 63 c_q47 := meets_of (E := E_q47) (code := code_q47) mix layD_ok cons_q47 Try.func63 (by kernel_rfl) sg_q47 (by kernel_rfl) (fun y => (⟨y.1, y.2.1, y.2.2.1⟩ : Rt)) c_q47.out (fun _ => rfl) c_q47.run (fun x => by kernel_rfl) (by kernel_rfl) (loops_mem loops_q47 (trivial))
noncomputable def sg_q61 : Sig := ⟨[(false, [.d (.sl .rat)])], [], false, [(false, [.own 0])], [(0, .arr false .rat)]⟩
noncomputable def c_q61 : Con := ⟨sg_q61, List Rt, fun x => M_impl_copyVector x.1, fun r => (r, ())⟩
noncomputable def code_q61 : Code := Try.f40.body.getD .skip
noncomputable def body_q61_0 : Code := (loopsIn code_q61).getD 0 .skip
noncomputable def D_q61_0 : LoopD := ⟨⟨mkSlots [(3, false, [.own 1280]), (6, false, [.d (.sl .rat)]), (7, false, [.d (.int .i64)]), (8, false, [.d (.int .i64)])] 19 0, [(1280, .arr false .rat)]⟩, [(.slot 3 0, 1280, .rat)], [(.exit 0, ⟨mkSlots [(3, false, [.own 1280])] 19 0, [(1280, .arr false .rat)]⟩, [(.slot 3 0, 1280, .rat)])]⟩
noncomputable def S_q61_0_w (x : Tys D_q61_0.head.ks) : Option (OutT D_q61_0.outs) := @whileO ((List Rt) × Int × Int × (List Rt) × Unit) ((List Rt) × Unit) S_impl_copyVector_0 x
noncomputable def E_q61 : Env := ⟨lay, [(63, c_q47)], [(3, mkLM D_q61_0 S_q61_0_w)], []⟩
theorem cons_q61 : ConsOk Try.prog E_q61.cons := consOk_cons m_q47 (callable_of Try.func63 (by kernel_rfl)) (consOk_nil)
theorem S_q61_0_ok (x : Tys D_q61_0.head.ks) : stepL E_q61 D_q61_0 body_q61_0 x = S_impl_copyVector_0 x := by kernel_rfl
theorem loops_q61_0 : loopsIn body_q61_0 = [] := by kernel_rfl
theorem l_q61_0 : LoopOk Try.prog (mkLM D_q61_0 S_q61_0_w) body_q61_0 := loop_ok2 mix lay_ok cons_q61 (by kernel_rfl) (loops_mem loops_q61_0 (trivial)) S_q61_0_ok fun _ _ h => h
theorem loops_q61 : loopsIn code_q61 = [body_q61_0] := by kernel_rfl
theorem m_q61 : Meets Try.prog 40 c_q61 := meets_of (E := E_q61) (code := code_q61) mix lay_ok cons_q61 Try.func40 (by kernel_rfl) sg_q61 (by kernel_rfl) (fun y => y.1) c_q61.out (fun _ => rfl) c_q61.run (fun x => by kernel_rfl) (by kernel_rfl) (loops_mem loops_q61 (⟨⟨_, by kernel_rfl, l_q61_0⟩, trivial⟩))
noncomputable def sg_q62 : Sig := ⟨[(true, [.d (.int .i64), .d (.int .i64), .own 191]), (false, [.d (.int .i64)]), (false, [.d (.int .i64)])], [(191, .arr false .rat)], false, [(true, [.d (.bool), .d (.sl .int), .d (.sl .int)])], [(191, .arr false .rat)]⟩
noncomputable def c_q62 : Con := ⟨sg_q62, Rt × List Rt, fun x => M_impl_Matrix_at_mdd (⟨x.1, x.2.1, x.2.2.2.2.1⟩ : Mx) x.2.2.1 x.2.2.2.1, fun r => (r.1.neg, r.1.mag, r.1.den, r.2, ())⟩
noncomputable def code_q62 : Code := Try.f21.body.getD .skip
noncomputable def E_q62 : Env := ⟨layD, [], [], []⟩
theorem cons_q62 : ConsOk Try.prog E_q62.cons := consOk_nil
theorem loops_q62 : loopsIn code_q62 = [] := by kernel_rfl
theorem m_q62 : Meets Try.prog 21 c_q62 := meets_of (E := E_q62) (code := code_q62) mix layD_ok cons_q62 Try.func21 (by kernel_rfl) sg_q62 (by kernel_rfl) (fun y => ((⟨y.1, y.2.1, y.2.2.1⟩ : Rt), y.2.2.2.1)) c_q62.out (fun _ => rfl) c_q62.run (fun x => by kernel_rfl) (by kernel_rfl) (loops_mem loops_q62 (trivial))
noncomputable def sg_q50 : Sig := ⟨[(true, [.d (.bool), .d (.sl .int), .d (.sl .int)])], [], false, [(false, [.d (.bool)])], []⟩
noncomputable def c_q50 : Con := ⟨sg_q50, Bool, fun x => M_impl_isZero (⟨x.1, x.2.1, x.2.2.1⟩ : Rt), fun r => (r, ())⟩
noncomputable def code_q50 : Code := Try.f41.body.getD .skip
noncomputable def E_q50 : Env := ⟨layD, [], [], []⟩
theorem cons_q50 : ConsOk Try.prog E_q50.cons := consOk_nil
theorem loops_q50 : loopsIn code_q50 = [] := by kernel_rfl
theorem m_q50 : Meets Try.prog 41 c_q50 := meets_of (E := E_q50) (code := code_q50) mix layD_ok cons_q50 Try.func41 (by kernel_rfl) sg_q50 (by kernel_rfl) (fun y => y.1) c_q50.out (fun _ => rfl) c_q50.run (fun x => by kernel_rfl) (by kernel_rfl) (loops_mem loops_q50 (trivial))
noncomputable def sg_q51 : Sig := ⟨[(false, [.d (.bool)]), (false, [.own 64])], [(64, .arr false .int)], false, [(true, [.d (.bool), .own 0])], [(0, .arr false .int)]⟩
noncomputable def c_q51 : Con := ⟨sg_q51, Bg, fun x => M_impl_signed_dc x.1 x.2.1, fun r => (r.neg, r.mag, ())⟩
noncomputable def code_q51 : Code := Try.f58.body.getD .skip
noncomputable def E_q51 : Env := ⟨layD, [], [], []⟩
theorem cons_q51 : ConsOk Try.prog E_q51.cons := consOk_nil
theorem loops_q51 : loopsIn code_q51 = [] := by kernel_rfl
theorem m_q51 : Meets Try.prog 58 c_q51 := meets_of (E := E_q51) (code := code_q51) mix layD_ok cons_q51 Try.func58 (by kernel_rfl) sg_q51 (by kernel_rfl) (fun y => (⟨y.1, y.2.1⟩ : Bg)) c_q51.out (fun _ => rfl) c_q51.run (fun x => by kernel_rfl) (by kernel_rfl) (loops_mem loops_q51 (trivial))
noncomputable def sg_q52 : Sig := ⟨[(false, [.d (.sl .int)]), (false, [.d (.sl .int)])], [], false, [(false, [.own 0])], [(0, .arr false .int)]⟩
noncomputable def c_q52 : Con := ⟨sg_q52, List Int, fun x => M_impl_natAdd x.1 x.2.1, fun r => (r, ())⟩
noncomputable def code_q52 : Code := Try.f103.body.getD .skip
noncomputable def body_q52_0 : Code := (loopsIn code_q52).getD 0 .skip
noncomputable def D_q52_0 : LoopD := ⟨⟨mkSlots [(0, false, [.d (.sl .int)]), (1, false, [.d (.sl .int)]), (5, false, [.own 3648]), (6, false, [.d (.int .i64)]), (21, false, [.d (.int .i64)]), (22, false, [.d (.int .i64)])] 56 0, [(3648, .arr false .int)]⟩, [], [(.exit 0, ⟨mkSlots [(5, false, [.own 3648]), (6, false, [.d (.int .i64)])] 56 0, [(3648, .arr false .int)]⟩, [])]⟩
noncomputable def S_q52_0_w (x : Tys D_q52_0.head.ks) : Option (OutT D_q52_0.outs) := @whileO ((List Int) × (List Int) × Int × Int × Int × (List Int) × Unit) (Int × (List Int) × Unit) S_impl_natAdd_0 x
noncomputable def E_q52 : Env := ⟨layD, [], [(6, mkLM D_q52_0 S_q52_0_w)], []⟩
theorem cons_q52 : ConsOk Try.prog E_q52.cons := consOk_nil
theorem S_q52_0_ok (x : Tys D_q52_0.head.ks) : stepL E_q52 D_q52_0 body_q52_0 x = S_impl_natAdd_0 x := by kernel_rfl
theorem loops_q52_0 : loopsIn body_q52_0 = [] := by kernel_rfl
theorem l_q52_0 : LoopOk Try.prog (mkLM D_q52_0 S_q52_0_w) body_q52_0 := loop_ok2 mix layD_ok cons_q52 (by kernel_rfl) (loops_mem loops_q52_0 (trivial)) S_q52_0_ok fun _ _ h => h
theorem loops_q52 : loopsIn code_q52 = [body_q52_0] := by kernel_rfl
theorem m_q52 : Meets Try.prog 103 c_q52 := meets_of (E := E_q52) (code := code_q52) mix layD_ok cons_q52 Try.func103 (by kernel_rfl) sg_q52 (by kernel_rfl) (fun y => y.1) c_q52.out (fun _ => rfl) c_q52.run (fun x => by kernel_rfl) (by kernel_rfl) (loops_mem loops_q52 (⟨⟨_, by kernel_rfl, l_q52_0⟩, trivial⟩))
noncomputable def sg_q53 : Sig := ⟨[(false, [.d (.int .i64)])], [], false, [(true, [.d (.bool), .own 0])], [(0, .arr false .int)]⟩
noncomputable def c_q53 : Con := ⟨sg_q53, Bg, fun x => M_impl_BigIntOf x.1, fun r => (r.neg, r.mag, ())⟩
noncomputable def code_q53 : Code := Try.f87.body.getD .skip
noncomputable def E_q53 : Env := ⟨layD, [(102, c_q39), (58, c_q51), (103, c_q52)], [], []⟩
theorem cons_q53 : ConsOk Try.prog E_q53.cons := consOk_cons m_q39 (callable_of Try.func102 (by kernel_rfl)) (consOk_cons m_q51 (callable_of Try.func58 (by kernel_rfl)) (consOk_cons m_q52 (callable_of Try.func103 (by kernel_rfl)) (consOk_nil)))
theorem loops_q53 : loopsIn code_q53 = [] := by kernel_rfl
theorem m_q53 : Meets Try.prog 87 c_q53 := meets_of (E := E_q53) (code := code_q53) mix layD_ok cons_q53 Try.func87 (by kernel_rfl) sg_q53 (by kernel_rfl) (fun y => (⟨y.1, y.2.1⟩ : Bg)) c_q53.out (fun _ => rfl) c_q53.run (fun x => by kernel_rfl) (by kernel_rfl) (loops_mem loops_q53 (trivial))
noncomputable def sg_q54 : Sig := ⟨[(false, [.d (.bool)]), (false, [.d (.sl .int)])], [], false, [(true, [.d (.bool), .d (.sl .int)])], []⟩
noncomputable def c_q54 : Con := ⟨sg_q54, Bg, fun x => M_impl_signed x.1 x.2.1, fun r => (r.neg, r.mag, ())⟩
noncomputable def code_q54 : Code := Try.f58.body.getD .skip
noncomputable def E_q54 : Env := ⟨layD, [], [], []⟩
theorem cons_q54 : ConsOk Try.prog E_q54.cons := consOk_nil
theorem loops_q54 : loopsIn code_q54 = [] := by kernel_rfl
theorem m_q54 : Meets Try.prog 58 c_q54 := meets_of (E := E_q54) (code := code_q54) mix layD_ok cons_q54 Try.func58 (by kernel_rfl) sg_q54 (by kernel_rfl) (fun y => (⟨y.1, y.2.1⟩ : Bg)) c_q54.out (fun _ => rfl) c_q54.run (fun x => by kernel_rfl) (by kernel_rfl) (loops_mem loops_q54 (trivial))
noncomputable def sg_q55 : Sig := ⟨[(true, [.d (.bool), .d (.sl .int)]), (false, [.d (.sl .int)])], [], false, [(true, [.d (.bool), .d (.sl .int), .d (.sl .int)])], []⟩
noncomputable def c_q55 : Con := ⟨sg_q55, Rt, fun x => M_impl_lowest (⟨x.1, x.2.1⟩ : Bg) x.2.2.1, fun r => (r.neg, r.mag, r.den, ())⟩
noncomputable def code_q55 : Code := Try.f65.body.getD .skip
noncomputable def E_q55 : Env := ⟨layD, [(62, c_q43), (61, c_q44), (88, c_q42), (58, c_q51)], [], []⟩
theorem cons_q55 : ConsOk Try.prog E_q55.cons := consOk_cons m_q43 (callable_of Try.func62 (by kernel_rfl)) (consOk_cons m_q44 (callable_of Try.func61 (by kernel_rfl)) (consOk_cons m_q42 (callable_of Try.func88 (by kernel_rfl)) (consOk_cons m_q51 (callable_of Try.func58 (by kernel_rfl)) (consOk_nil))))
theorem loops_q55 : loopsIn code_q55 = [] := by kernel_rfl
theorem m_q55 : Meets Try.prog 65 c_q55 := meets_of (E := E_q55) (code := code_q55) mix layD_ok cons_q55 Try.func65 (by kernel_rfl) sg_q55 (by kernel_rfl) (fun y => (⟨y.1, y.2.1, y.2.2.1⟩ : Rt)) c_q55.out (fun _ => rfl) c_q55.run (fun x => by kernel_rfl) (by kernel_rfl) (loops_mem loops_q55 (trivial))
noncomputable def sg_q56 : Sig := ⟨[(true, [.d (.bool), .d (.sl .int)]), (true, [.d (.bool), .d (.sl .int)])], [], false, [(true, [.d (.bool), .own 0, .own 1])], [(0, .arr false .int), (1, .arr false .int)]⟩
noncomputable def c_q56 : Con := ⟨sg_q56, Rt, fun x => M_impl_RatMake (⟨x.1, x.2.1⟩ : Bg) (⟨x.2.2.1, x.2.2.2.1⟩ : Bg), fun r => (r.neg, r.mag, r.den, ())⟩
noncomputable def code_q56 : Code := Try.f86.body.getD .skip
noncomputable def E_q56 : Env := ⟨layD, [(59, c_q35), (58, c_q54), (65, c_q55), (63, c_q47)], [], [(3, [(0, []), (1, []), (2, []), (3, []), (4, []), (5, []), (6, []), (8, []), (9, []), (7, [4, 6, 1, 3, 5, 0, 2]), (10, [7, 9, 4, 6, 8, 1, 3, 5, 0, 2]), (11, [10, 7, 9, 4, 6, 8, 1, 3, 5, 0, 2]), (12, [11, 0, 1, 2, 3, 4, 5, 6, 7, 8, 9, 10])])]⟩
theorem cons_q56 : ConsOk Try.prog E_q56.cons := consOk_cons m_q35 (callable_of Try.func59 (by kernel_rfl)) (consOk_cons m_q54 (callable_of Try.func58 (by kernel_rfl)) (consOk_cons m_q55 (callable_of Try.func65 (by kernel_rfl)) (consOk_cons m_q47 (callable_of Try.func63 (by kernel_rfl)) (consOk_nil))))
theorem loops_q56 : loopsIn code_q56 = [] := by kernel_rfl
theorem m_q56 : Meets Try.prog 86 c_q56 := meets_of (E := E_q56) (code := code_q56) mix layD_ok cons_q56 Try.func86 (by kernel_rfl) sg_q56 (by kernel_rfl) (fun y => (⟨y.1, y.2.1, y.2.2.1⟩ : Rt)) c_q56.out (fun _ => rfl) c_q56.run (fun x => by kernel_rfl) (by kernel_rfl) (loops_mem loops_q56 (trivial))
noncomputable def sg_q57 : Sig := ⟨[(false, [.d (.int .i64)]), (false, [.d (.int .i64)])], [], false, [(true, [.d (.bool), .own 0, .own 1])], [(0, .arr false .int), (1, .arr false .int)]⟩
noncomputable def c_q57 : Con := ⟨sg_q57, Rt, fun x => M_impl_RatOf x.1 x.2.1, fun r => (r.neg, r.mag, r.den, ())⟩
noncomputable def code_q57 : Code := Try.f57.body.getD .skip
noncomputable def E_q57 : Env := ⟨layD, [(87, c_q53), (86, c_q56)], [], []⟩
theorem cons_q57 : ConsOk Try.prog E_q57.cons := consOk_cons m_q53 (callable_of Try.func87 (by kernel_rfl)) (consOk_cons m_q56 (callable_of Try.func86 (by kernel_rfl)) (consOk_nil))
theorem loops_q57 : loopsIn code_q57 = [] := by kernel_rfl
theorem m_q57 : Meets Try.prog 57 c_q57 := meets_of (E := E_q57) (code := code_q57) mix layD_ok cons_q57 Try.func57 (by kernel_rfl) sg_q57 (by kernel_rfl) (fun y => (⟨y.1, y.2.1, y.2.2.1⟩ : Rt)) c_q57.out (fun _ => rfl) c_q57.run (fun x => by kernel_rfl) (by kernel_rfl) (loops_mem loops_q57 (trivial))
noncomputable def sg_q58 : Sig := ⟨[(false, [.d (.int .i64)])], [], false, [(true, [.d (.bool), .own 0, .own 1])], [(0, .arr false .int), (1, .arr false .int)]⟩
noncomputable def c_q58 : Con := ⟨sg_q58, Rt, fun x => M_impl_RatFromInt x.1, fun r => (r.neg, r.mag, r.den, ())⟩
noncomputable def code_q58 : Code := Try.f34.body.getD .skip
noncomputable def E_q58 : Env := ⟨layD, [(57, c_q57)], [], []⟩
theorem cons_q58 : ConsOk Try.prog E_q58.cons := consOk_cons m_q57 (callable_of Try.func57 (by kernel_rfl)) (consOk_nil)
theorem loops_q58 : loopsIn code_q58 = [] := by kernel_rfl
theorem m_q58 : Meets Try.prog 34 c_q58 := meets_of (E := E_q58) (code := code_q58) mix layD_ok cons_q58 Try.func34 (by kernel_rfl) sg_q58 (by kernel_rfl) (fun y => (⟨y.1, y.2.1, y.2.2.1⟩ : Rt)) c_q58.out (fun _ => rfl) c_q58.run (fun x => by kernel_rfl) (by kernel_rfl) (loops_mem loops_q58 (trivial))
noncomputable def sg_q59 : Sig := ⟨[(false, [.d (.int .i64)])], [], false, [(true, [.d (.bool), .own 0, .own 1])], [(0, .arr false .int), (1, .arr false .int)]⟩
noncomputable def c_q59 : Con := ⟨sg_q59, Rt, fun x => M_impl_whole x.1, fun r => (r.neg, r.mag, r.den, ())⟩
noncomputable def code_q59 : Code := Try.f19.body.getD .skip
noncomputable def E_q59 : Env := ⟨layD, [(34, c_q58)], [], []⟩
theorem cons_q59 : ConsOk Try.prog E_q59.cons := consOk_cons m_q58 (callable_of Try.func34 (by kernel_rfl)) (consOk_nil)
theorem loops_q59 : loopsIn code_q59 = [] := by kernel_rfl
theorem m_q59 : Meets Try.prog 19 c_q59 := meets_of (E := E_q59) (code := code_q59) mix layD_ok cons_q59 Try.func19 (by kernel_rfl) sg_q59 (by kernel_rfl) (fun y => (⟨y.1, y.2.1, y.2.2.1⟩ : Rt)) c_q59.out (fun _ => rfl) c_q59.run (fun x => by kernel_rfl) (by kernel_rfl) (loops_mem loops_q59 (trivial))
noncomputable def sg_q63 : Sig := ⟨[(true, [.d (.int .i64), .d (.int .i64), .own 191]), (false, [.d (.int .i64)])], [(191, .arr false .rat)], false, [(false, [.win 191])], [(191, .arr false .rat)]⟩
noncomputable def c_q63 : Con := ⟨sg_q63, (Nat × Nat) × List Rt, fun x => M_impl_Matrix_row_md (⟨x.1, x.2.1, x.2.2.2.1⟩ : Mx) x.2.2.1, fun r => (r.1.1, r.1.2, r.2, ())⟩
noncomputable def code_q63 : Code := Try.f42.body.getD .skip
noncomputable def E_q63 : Env := ⟨lay, [], [], []⟩
theorem cons_q63 : ConsOk Try.prog E_q63.cons := consOk_nil
theorem loops_q63 : loopsIn code_q63 = [] := by kernel_rfl
theorem m_q63 : Meets Try.prog 42 c_q63 := meets_of (E := E_q63) (code := code_q63) mix lay_ok cons_q63 Try.func42 (by kernel_rfl) sg_q63 (by kernel_rfl) (fun y => ((y.1, y.2.1), y.2.2.1)) c_q63.out (fun _ => rfl) c_q63.run (fun x => by kernel_rfl) (by kernel_rfl) (loops_mem loops_q63 (trivial))
noncomputable def sg_q64 : Sig := ⟨[(true, [.d (.bool), .d (.sl .int), .d (.sl .int)])], [], false, [(false, [.d (.bool)])], []⟩
noncomputable def c_q64 : Con := ⟨sg_q64, Bool, fun x => M_impl_void (⟨x.1, x.2.1, x.2.2.1⟩ : Rt), fun r => (r, ())⟩
noncomputable def code_q64 : Code := Try.f35.body.getD .skip
noncomputable def E_q64 : Env := ⟨layD, [], [], []⟩
theorem cons_q64 : ConsOk Try.prog E_q64.cons := consOk_nil
theorem loops_q64 : loopsIn code_q64 = [] := by kernel_rfl
theorem m_q64 : Meets Try.prog 35 c_q64 := meets_of (E := E_q64) (code := code_q64) mix layD_ok cons_q64 Try.func35 (by kernel_rfl) sg_q64 (by kernel_rfl) (fun y => y.1) c_q64.out (fun _ => rfl) c_q64.run (fun x => by kernel_rfl) (by kernel_rfl) (loops_mem loops_q64 (trivial))
noncomputable def sg_q65 : Sig := ⟨[(true, [.d (.bool), .d (.sl .int)]), (true, [.d (.bool), .d (.sl .int)])], [], false, [(true, [.d (.bool), .own 0])], [(0, .arr false .int)]⟩
noncomputable def c_q65 : Con := ⟨sg_q65, Bg, fun x => M_impl_bigMul (⟨x.1, x.2.1⟩ : Bg) (⟨x.2.2.1, x.2.2.2.1⟩ : Bg), fun r => (r.neg, r.mag, ())⟩
noncomputable def code_q65 : Code := Try.f66.body.getD .skip
noncomputable def E_q65 : Env := ⟨layD, [(67, c_q41), (58, c_q51)], [], [(1, [(0, []), (1, []), (2, []), (3, []), (4, []), (5, []), (6, []), (7, []), (8, []), (9, [6, 8, 5, 7]), (10, [4, 9, 1, 3, 6, 8, 0, 2, 5, 7]), (11, [10, 0, 1, 2, 3, 4, 5, 6, 7, 8, 9])])]⟩
theorem cons_q65 : ConsOk Try.prog E_q65.cons := consOk_cons m_q41 (callable_of Try.func67 (by kernel_rfl)) (consOk_cons m_q51 (callable_of Try.func58 (by kernel_rfl)) (consOk_nil))
theorem loops_q65 : loopsIn code_q65 = [] := by kernel_rfl
theorem m_q65 : Meets Try.prog 66 c_q65 := meets_of (E := E_q65) (code := code_q65) mix layD_ok cons_q65 Try.func66 (by kernel_rfl) sg_q65 (by kernel_rfl) (fun y => (⟨y.1, y.2.1⟩ : Bg)) c_q65.out (fun _ => rfl) c_q65.run (fun x => by kernel_rfl) (by kernel_rfl) (loops_mem loops_q65 (trivial))
noncomputable def sg_q66 : Sig := ⟨[(true, [.d (.bool), .own 1]), (false, [.own 64])], [(1, .arr false .int), (64, .arr false .int)], false, [(true, [.d (.bool), .own 0, .own 1])], [(0, .arr false .int), (1, .arr false .int)]⟩
noncomputable def c_q66 : Con := ⟨sg_q66, Rt, fun x => M_impl_lowest_cc (⟨x.1, x.2.1⟩ : Bg) x.2.2.1, fun r => (r.neg, r.mag, r.den, ())⟩
noncomputable def code_q66 : Code := Try.f65.body.getD .skip
noncomputable def E_q66 : Env := ⟨layD, [(62, c_q43), (61, c_q44), (88, c_q42), (58, c_q51)], [], []⟩
theorem cons_q66 : ConsOk Try.prog E_q66.cons := consOk_cons m_q43 (callable_of Try.func62 (by kernel_rfl)) (consOk_cons m_q44 (callable_of Try.func61 (by kernel_rfl)) (consOk_cons m_q42 (callable_of Try.func88 (by kernel_rfl)) (consOk_cons m_q51 (callable_of Try.func58 (by kernel_rfl)) (consOk_nil))))
theorem loops_q66 : loopsIn code_q66 = [] := by kernel_rfl
theorem m_q66 : Meets Try.prog 65 c_q66 := meets_of (E := E_q66) (code := code_q66) mix layD_ok cons_q66 Try.func65 (by kernel_rfl) sg_q66 (by kernel_rfl) (fun y => (⟨y.1, y.2.1, y.2.2.1⟩ : Rt)) c_q66.out (fun _ => rfl) c_q66.run (fun x => by kernel_rfl) (by kernel_rfl) (loops_mem loops_q66 (trivial))
noncomputable def sg_q67 : Sig := ⟨[(true, [.d (.bool), .d (.sl .int), .d (.sl .int)]), (true, [.d (.bool), .d (.sl .int), .d (.sl .int)])], [], false, [(true, [.d (.bool), .own 0, .own 1])], [(0, .arr false .int), (1, .arr false .int)]⟩
noncomputable def c_q67 : Con := ⟨sg_q67, Rt, fun x => M_impl_mul (⟨x.1, x.2.1, x.2.2.1⟩ : Rt) (⟨x.2.2.2.1, x.2.2.2.2.1, x.2.2.2.2.2.1⟩ : Rt), fun r => (r.neg, r.mag, r.den, ())⟩
noncomputable def code_q67 : Code := Try.f46.body.getD .skip
noncomputable def E_q67 : Env := ⟨layD, [(35, c_q64), (66, c_q65), (67, c_q41), (65, c_q66)], [], [(3, [(0, []), (1, []), (2, []), (3, []), (5, []), (6, []), (7, []), (8, []), (4, [1, 3, 0, 2]), (9, [6, 8, 4, 5, 7, 1, 3, 0, 2]), (10, [4, 9, 1, 3, 6, 8, 0, 2, 5, 7]), (11, [10, 0, 1, 2, 3, 4, 5, 6, 7, 8, 9])])]⟩
theorem cons_q67 : ConsOk Try.prog E_q67.cons := consOk_cons m_q64 (callable_of Try.func35 (by kernel_rfl)) (consOk_cons m_q65 (callable_of Try.func66 (by kernel_rfl)) (consOk_cons m_q41 (callable_of Try.func67 (by kernel_rfl)) (consOk_cons m_q66 (callable_of Try.func65 (by kernel_rfl)) (consOk_nil))))
theorem loops_q67 : loopsIn code_q67 = [] := by kernel_rfl
theorem m_q67 : Meets Try.prog 46 c_q67 := meets_of (E := E_q67) (code := code_q67) mix layD_ok cons_q67 Try.func46 (by kernel_rfl) sg_q67 (by kernel_rfl) (fun y => (⟨y.1, y.2.1, y.2.2.1⟩ : Rt)) c_q67.out (fun _ => rfl) c_q67.run (fun x => by kernel_rfl) (by kernel_rfl) (loops_mem loops_q67 (trivial))
noncomputable def sg_q68 : Sig := ⟨[(true, [.d (.bool), .d (.sl .int), .d (.sl .int)]), (true, [.d (.bool), .d (.sl .int), .d (.sl .int)])], [], false, [(true, [.d (.bool), .own 0, .own 1])], [(0, .arr false .int), (1, .arr false .int)]⟩
noncomputable def c_q68 : Con := ⟨sg_q68, Rt, fun x => M_impl_div (⟨x.1, x.2.1, x.2.2.1⟩ : Rt) (⟨x.2.2.2.1, x.2.2.2.2.1, x.2.2.2.2.2.1⟩ : Rt), fun r => (r.neg, r.mag, r.den, ())⟩
noncomputable def code_q68 : Code := Try.f43.body.getD .skip
noncomputable def E_q68 : Env := ⟨layD, [(35, c_q64), (46, c_q67)], [], []⟩
theorem cons_q68 : ConsOk Try.prog E_q68.cons := consOk_cons m_q64 (callable_of Try.func35 (by kernel_rfl)) (consOk_cons m_q67 (callable_of Try.func46 (by kernel_rfl)) (consOk_nil))
theorem loops_q68 : loopsIn code_q68 = [] := by kernel_rfl
theorem m_q68 : Meets Try.prog 43 c_q68 := meets_of (E := E_q68) (code := code_q68) mix layD_ok cons_q68 Try.func43 (by kernel_rfl) sg_q68 (by kernel_rfl) (fun y => (⟨y.1, y.2.1, y.2.2.1⟩ : Rt)) c_q68.out (fun _ => rfl) c_q68.run (fun x => by kernel_rfl) (by kernel_rfl) (loops_mem loops_q68 (trivial))
noncomputable def sg_q69 : Sig := ⟨[(false, [.d (.sl .rat)])], [], false, [(false, [.d (.bool)])], []⟩
noncomputable def c_q69 : Con := ⟨sg_q69, Bool, fun x => M_impl_complete x.1, fun r => (r, ())⟩
noncomputable def code_q69 : Code := Try.f44.body.getD .skip
noncomputable def body_q69_0 : Code := (loopsIn code_q69).getD 0 .skip
noncomputable def D_q69_0 : LoopD := ⟨⟨mkSlots [(5, false, [.d (.sl .rat)]), (6, false, [.d (.int .i64)]), (7, false, [.d (.int .i64)])] 14 0, []⟩, [], [(.ret, ⟨mkSlots [(2, false, [.d (.bool)])] 14 0, []⟩, []), (.exit 0, ⟨mkSlots [] 14 0, []⟩, [])]⟩
noncomputable def S_q69_0_w (x : Tys D_q69_0.head.ks) : Option (OutT D_q69_0.outs) := @whileO ((List Rt) × Int × Int × Unit) ((Bool × Unit) ⊕ (Unit)) S_impl_complete_0 x
noncomputable def E_q69 : Env := ⟨layD, [(35, c_q64)], [(2, mkLM D_q69_0 S_q69_0_w)], []⟩
theorem cons_q69 : ConsOk Try.prog E_q69.cons := consOk_cons m_q64 (callable_of Try.func35 (by kernel_rfl)) (consOk_nil)
theorem S_q69_0_ok (x : Tys D_q69_0.head.ks) : stepL E_q69 D_q69_0 body_q69_0 x = S_impl_complete_0 x := by kernel_rfl
theorem loops_q69_0 : loopsIn body_q69_0 = [] := by kernel_rfl
theorem l_q69_0 : LoopOk Try.prog (mkLM D_q69_0 S_q69_0_w) body_q69_0 := loop_ok2 mix layD_ok cons_q69 (by kernel_rfl) (loops_mem loops_q69_0 (trivial)) S_q69_0_ok fun _ _ h => h
theorem loops_q69 : loopsIn code_q69 = [body_q69_0] := by kernel_rfl
theorem m_q69 : Meets Try.prog 44 c_q69 := meets_of (E := E_q69) (code := code_q69) mix layD_ok cons_q69 Try.func44 (by kernel_rfl) sg_q69 (by kernel_rfl) (fun y => y.1) c_q69.out (fun _ => rfl) c_q69.run (fun x => by kernel_rfl) (by kernel_rfl) (loops_mem loops_q69 (⟨⟨_, by kernel_rfl, l_q69_0⟩, trivial⟩))
noncomputable def sg_q70 : Sig := ⟨[(true, [.d (.bool), .d (.sl .int)])], [], false, [(true, [.d (.bool), .own 0])], [(0, .arr false .int)]⟩
noncomputable def c_q70 : Con := ⟨sg_q70, Bg, fun x => M_impl_bigNeg (⟨x.1, x.2.1⟩ : Bg), fun r => (r.neg, r.mag, ())⟩
noncomputable def code_q70 : Code := Try.f36.body.getD .skip
noncomputable def E_q70 : Env := ⟨layD, [(37, c_q37), (58, c_q51)], [], [(1, [(0, []), (1, []), (2, []), (3, []), (4, []), (5, [4, 3]), (6, [2, 5, 1, 4, 0, 3]), (7, [6, 0, 1, 2, 3, 4, 5])])]⟩
theorem cons_q70 : ConsOk Try.prog E_q70.cons := consOk_cons m_q37 (callable_of Try.func37 (by kernel_rfl)) (consOk_cons m_q51 (callable_of Try.func58 (by kernel_rfl)) (consOk_nil))
theorem loops_q70 : loopsIn code_q70 = [] := by kernel_rfl
theorem m_q70 : Meets Try.prog 36 c_q70 := meets_of (E := E_q70) (code := code_q70) mix layD_ok cons_q70 Try.func36 (by kernel_rfl) sg_q70 (by kernel_rfl) (fun y => (⟨y.1, y.2.1⟩ : Bg)) c_q70.out (fun _ => rfl) c_q70.run (fun x => by kernel_rfl) (by kernel_rfl) (loops_mem loops_q70 (trivial))
noncomputable def sg_q71 : Sig := ⟨[(true, [.d (.bool), .d (.sl .int), .d (.sl .int)])], [], false, [(true, [.d (.bool), .own 0, .own 1])], [(0, .arr false .int), (1, .arr false .int)]⟩
noncomputable def c_q71 : Con := ⟨sg_q71, Rt, fun x => M_impl_neg (⟨x.1, x.2.1, x.2.2.1⟩ : Rt), fun r => (r.neg, r.mag, r.den, ())⟩
noncomputable def code_q71 : Code := Try.f20.body.getD .skip
noncomputable def E_q71 : Env := ⟨layD, [(35, c_q64), (36, c_q70), (37, c_q37)], [], [(3, [(0, []), (1, []), (3, []), (4, []), (2, [1, 0]), (5, [4, 2, 3, 1, 0]), (6, []), (7, [6, 5, 0, 1, 2, 3, 4])])]⟩
theorem cons_q71 : ConsOk Try.prog E_q71.cons := consOk_cons m_q64 (callable_of Try.func35 (by kernel_rfl)) (consOk_cons m_q70 (callable_of Try.func36 (by kernel_rfl)) (consOk_cons m_q37 (callable_of Try.func37 (by kernel_rfl)) (consOk_nil)))
theorem loops_q71 : loopsIn code_q71 = [] := by kernel_rfl
theorem m_q71 : Meets Try.prog 20 c_q71 := meets_of (E := E_q71) (code := code_q71) mix layD_ok cons_q71 Try.func20 (by kernel_rfl) sg_q71 (by kernel_rfl) (fun y => (⟨y.1, y.2.1, y.2.2.1⟩ : Rt)) c_q71.out (fun _ => rfl) c_q71.run (fun x => by kernel_rfl) (by kernel_rfl) (loops_mem loops_q71 (trivial))
noncomputable def sg_q72 : Sig := ⟨[(false, [.d (.sl .int)]), (false, [.d (.sl .int)])], [], false, [(false, [.d (.bool)])], []⟩
noncomputable def c_q72 : Con := ⟨sg_q72, Bool, fun x => M_impl_sameInts x.1 x.2.1, fun r => (r, ())⟩
noncomputable def code_q72 : Code := Try.f48.body.getD .skip
noncomputable def body_q72_0 : Code := (loopsIn code_q72).getD 0 .skip
noncomputable def D_q72_0 : LoopD := ⟨⟨mkSlots [(0, false, [.d (.sl .int)]), (1, false, [.d (.sl .int)]), (12, false, [.d (.int .i64)]), (13, false, [.d (.int .i64)])] 26 0, []⟩, [], [(.ret, ⟨mkSlots [(4, false, [.d (.bool)])] 26 0, []⟩, []), (.exit 0, ⟨mkSlots [] 26 0, []⟩, [])]⟩
noncomputable def S_q72_0_w (x : Tys D_q72_0.head.ks) : Option (OutT D_q72_0.outs) := @whileO ((List Int) × (List Int) × Int × Int × Unit) ((Bool × Unit) ⊕ (Unit)) S_impl_sameInts_0 x
noncomputable def E_q72 : Env := ⟨layD, [], [(4, mkLM D_q72_0 S_q72_0_w)], [(6, [(0, []), (1, []), (2, []), (3, []), (4, []), (5, []), (6, []), (7, []), (8, [])])]⟩
theorem cons_q72 : ConsOk Try.prog E_q72.cons := consOk_nil
theorem S_q72_0_ok (x : Tys D_q72_0.head.ks) : stepL E_q72 D_q72_0 body_q72_0 x = S_impl_sameInts_0 x := by kernel_rfl
theorem loops_q72_0 : loopsIn body_q72_0 = [] := by kernel_rfl
theorem l_q72_0 : LoopOk Try.prog (mkLM D_q72_0 S_q72_0_w) body_q72_0 := loop_ok2 mix layD_ok cons_q72 (by kernel_rfl) (loops_mem loops_q72_0 (trivial)) S_q72_0_ok fun _ _ h => h
theorem loops_q72 : loopsIn code_q72 = [body_q72_0] := by kernel_rfl
theorem m_q72 : Meets Try.prog 48 c_q72 := meets_of (E := E_q72) (code := code_q72) mix layD_ok cons_q72 Try.func48 (by kernel_rfl) sg_q72 (by kernel_rfl) (fun y => y.1) c_q72.out (fun _ => rfl) c_q72.run (fun x => by kernel_rfl) (by kernel_rfl) (loops_mem loops_q72 (⟨⟨_, by kernel_rfl, l_q72_0⟩, trivial⟩))
noncomputable def sg_q73 : Sig := ⟨[(false, [.d (.sl .int)]), (false, [.d (.sl .int)])], [], false, [(false, [.own 0])], [(0, .arr false .int)]⟩
noncomputable def c_q73 : Con := ⟨sg_q73, List Int, fun x => M_impl_natSub x.1 x.2.1, fun r => (r, ())⟩
noncomputable def code_q73 : Code := Try.f106.body.getD .skip
noncomputable def body_q73_0 : Code := (loopsIn code_q73).getD 0 .skip
noncomputable def D_q73_0 : LoopD := ⟨⟨mkSlots [(1, false, [.d (.sl .int)]), (5, false, [.own 2816]), (6, false, [.d (.int .i64)]), (12, false, [.d (.int .i64)]), (13, false, [.d (.int .i64)])] 43 0, [(2816, .arr false .int)]⟩, [], [(.exit 0, ⟨mkSlots [(5, false, [.own 2816])] 43 0, [(2816, .arr false .int)]⟩, [])]⟩
noncomputable def S_q73_0_w (x : Tys D_q73_0.head.ks) : Option (OutT D_q73_0.outs) := @whileO ((List Int) × Int × Int × Int × (List Int) × Unit) ((List Int) × Unit) S_impl_natSub_0 x
noncomputable def E_q73 : Env := ⟨layD, [(37, c_q37), (90, c_q38)], [(4, mkLM D_q73_0 S_q73_0_w)], []⟩
theorem cons_q73 : ConsOk Try.prog E_q73.cons := consOk_cons m_q37 (callable_of Try.func37 (by kernel_rfl)) (consOk_cons m_q38 (callable_of Try.func90 (by kernel_rfl)) (consOk_nil))
theorem S_q73_0_ok (x : Tys D_q73_0.head.ks) : stepL E_q73 D_q73_0 body_q73_0 x = S_impl_natSub_0 x := by kernel_rfl
theorem loops_q73_0 : loopsIn body_q73_0 = [] := by kernel_rfl
theorem l_q73_0 : LoopOk Try.prog (mkLM D_q73_0 S_q73_0_w) body_q73_0 := loop_ok2 mix layD_ok cons_q73 (by kernel_rfl) (loops_mem loops_q73_0 (trivial)) S_q73_0_ok fun _ _ h => h
theorem loops_q73 : loopsIn code_q73 = [body_q73_0] := by kernel_rfl
theorem m_q73 : Meets Try.prog 106 c_q73 := meets_of (E := E_q73) (code := code_q73) mix layD_ok cons_q73 Try.func106 (by kernel_rfl) sg_q73 (by kernel_rfl) (fun y => y.1) c_q73.out (fun _ => rfl) c_q73.run (fun x => by kernel_rfl) (by kernel_rfl) (loops_mem loops_q73 (⟨⟨_, by kernel_rfl, l_q73_0⟩, trivial⟩))
noncomputable def sg_q74 : Sig := ⟨[(true, [.d (.bool), .d (.sl .int)]), (true, [.d (.bool), .d (.sl .int)])], [], false, [(true, [.d (.bool), .own 0])], [(0, .arr false .int)]⟩
noncomputable def c_q74 : Con := ⟨sg_q74, Bg, fun x => M_impl_bigAdd (⟨x.1, x.2.1⟩ : Bg) (⟨x.2.2.1, x.2.2.2.1⟩ : Bg), fun r => (r.neg, r.mag, ())⟩
noncomputable def code_q74 : Code := Try.f89.body.getD .skip
noncomputable def E_q74 : Env := ⟨layD, [(103, c_q52), (58, c_q51), (104, c_q36), (106, c_q73)], [], [(2, [(0, []), (1, []), (2, []), (3, []), (4, []), (5, []), (6, [3, 5, 2, 4]), (7, [1, 6, 0, 3, 5, 2, 4]), (8, [7, 0, 1, 2, 3, 4, 5, 6])]), (4, [(0, []), (1, []), (2, []), (3, []), (4, []), (5, []), (6, [3, 5, 2, 4]), (7, [1, 6, 0, 3, 5, 2, 4]), (8, [7, 0, 1, 2, 3, 4, 5, 6])]), (5, [(0, []), (1, []), (2, []), (3, []), (4, []), (5, []), (6, [3, 5, 2, 4]), (7, [1, 6, 0, 3, 5, 2, 4]), (8, [7, 0, 1, 2, 3, 4, 5, 6])])]⟩
theorem cons_q74 : ConsOk Try.prog E_q74.cons := consOk_cons m_q52 (callable_of Try.func103 (by kernel_rfl)) (consOk_cons m_q51 (callable_of Try.func58 (by kernel_rfl)) (consOk_cons m_q36 (callable_of Try.func104 (by kernel_rfl)) (consOk_cons m_q73 (callable_of Try.func106 (by kernel_rfl)) (consOk_nil))))
theorem loops_q74 : loopsIn code_q74 = [] := by kernel_rfl
theorem m_q74 : Meets Try.prog 89 c_q74 := meets_of (E := E_q74) (code := code_q74) mix layD_ok cons_q74 Try.func89 (by kernel_rfl) sg_q74 (by kernel_rfl) (fun y => (⟨y.1, y.2.1⟩ : Bg)) c_q74.out (fun _ => rfl) c_q74.run (fun x => by kernel_rfl) (by kernel_rfl) (loops_mem loops_q74 (trivial))
noncomputable def sg_q75 : Sig := ⟨[(true, [.d (.bool), .d (.sl .int), .d (.sl .int)]), (true, [.d (.bool), .d (.sl .int), .d (.sl .int)])], [], false, [(true, [.d (.bool), .own 0, .own 1])], [(0, .arr false .int), (1, .arr false .int)]⟩
noncomputable def c_q75 : Con := ⟨sg_q75, Rt, fun x => M_impl_add (⟨x.1, x.2.1, x.2.2.1⟩ : Rt) (⟨x.2.2.2.1, x.2.2.2.2.1, x.2.2.2.2.2.1⟩ : Rt), fun r => (r.neg, r.mag, r.den, ())⟩
noncomputable def code_q75 : Code := Try.f64.body.getD .skip
noncomputable def E_q75 : Env := ⟨layD, [(35, c_q64), (48, c_q72), (89, c_q74), (37, c_q37), (65, c_q66), (66, c_q65), (67, c_q41)], [], [(4, [(0, []), (1, []), (2, []), (3, []), (5, []), (6, []), (4, [1, 3, 0, 2]), (7, [6, 4, 5, 1, 3, 0, 2]), (8, [4, 7, 1, 3, 6, 0, 2, 5]), (9, [8, 0, 1, 2, 3, 4, 5, 6, 7])]), (7, [(0, []), (1, []), (3, []), (4, []), (5, []), (6, []), (2, [0, 1]), (7, [4, 6, 2, 3, 5, 0, 1]), (8, [2, 7, 0, 1, 4, 6, 3, 5]), (9, [8, 0, 1, 2, 3, 4, 5, 6, 7])])]⟩
theorem cons_q75 : ConsOk Try.prog E_q75.cons := consOk_cons m_q64 (callable_of Try.func35 (by kernel_rfl)) (consOk_cons m_q72 (callable_of Try.func48 (by kernel_rfl)) (consOk_cons m_q74 (callable_of Try.func89 (by kernel_rfl)) (consOk_cons m_q37 (callable_of Try.func37 (by kernel_rfl)) (consOk_cons m_q66 (callable_of Try.func65 (by kernel_rfl)) (consOk_cons m_q65 (callable_of Try.func66 (by kernel_rfl)) (consOk_cons m_q41 (callable_of Try.func67 (by kernel_rfl)) (consOk_nil)))))))
theorem loops_q75 : loopsIn code_q75 = [] := by kernel_rfl
theorem m_q75 : Meets Try.prog 64 c_q75 := meets_of (E := E_q75) (code := code_q75) mix layD_ok cons_q75 Try.func64 (by kernel_rfl) sg_q75 (by kernel_rfl) (fun y => (⟨y.1, y.2.1, y.2.2.1⟩ : Rt)) c_q75.out (fun _ => rfl) c_q75.run (fun x => by kernel_rfl) (by kernel_rfl) (loops_mem loops_q75 (trivial))
noncomputable def sg_q76 : Sig := ⟨[(true, [.d (.bool), .d (.sl .int), .d (.sl .int)]), (true, [.d (.bool), .d (.sl .int), .d (.sl .int)])], [], false, [(true, [.d (.bool), .own 0, .own 1])], [(0, .arr false .int), (1, .arr false .int)]⟩
noncomputable def c_q76 : Con := ⟨sg_q76, Rt, fun x => M_impl_sub (⟨x.1, x.2.1, x.2.2.1⟩ : Rt) (⟨x.2.2.2.1, x.2.2.2.2.1, x.2.2.2.2.2.1⟩ : Rt), fun r => (r.neg, r.mag, r.den, ())⟩
noncomputable def code_q76 : Code := Try.f45.body.getD .skip
noncomputable def E_q76 : Env := ⟨layD, [(20, c_q71), (64, c_q75)], [], [(1, [(0, []), (1, []), (2, [1]), (3, [0, 2, 1]), (4, [3, 0, 1, 2])])]⟩
theorem cons_q76 : ConsOk Try.prog E_q76.cons := consOk_cons m_q71 (callable_of Try.func20 (by kernel_rfl)) (consOk_cons m_q75 (callable_of Try.func64 (by kernel_rfl)) (consOk_nil))
theorem loops_q76 : loopsIn code_q76 = [] := by kernel_rfl
theorem m_q76 : Meets Try.prog 45 c_q76 := meets_of (E := E_q76) (code := code_q76) mix layD_ok cons_q76 Try.func45 (by kernel_rfl) sg_q76 (by kernel_rfl) (fun y => (⟨y.1, y.2.1, y.2.2.1⟩ : Rt)) c_q76.out (fun _ => rfl) c_q76.run (fun x => by kernel_rfl) (by kernel_rfl) (loops_mem loops_q76 (trivial))
noncomputable def sg_q77 : Sig := ⟨[(true, [.d (.int .i64), .d (.int .i64), .d (.sl .rat)])], [], true, [(true, [.d (.int .i64), .d (.int .i64), .d (.sl .rat), .d (.sl .int), .d (.sl .rat)]), (false, [.d (.bool)])], []⟩
noncomputable def c_q77 : Con := ⟨sg_q77, Rdn × Bool, fun x => M_impl_reduce (⟨x.1, x.2.1, x.2.2.1⟩ : Mx), fun r => (r.1.rows, r.1.cols, r.1.cells, r.1.pivots, r.1.factors, r.2, ())⟩
noncomputable def code_q77 : Code := Try.f23.body.getD .skip
noncomputable def body_q77_0 : Code := (loopsIn code_q77).getD 0 .skip
noncomputable def body_q77_1 : Code := (loopsIn body_q77_0).getD 0 .skip
noncomputable def body_q77_2 : Code := (loopsIn body_q77_0).getD 1 .skip
noncomputable def body_q77_3 : Code := (loopsIn body_q77_0).getD 2 .skip
noncomputable def body_q77_4 : Code := (loopsIn body_q77_0).getD 3 .skip
noncomputable def body_q77_5 : Code := (loopsIn body_q77_4).getD 0 .skip
noncomputable def D_q77_0 : LoopD := ⟨⟨mkSlots [(2, false, [.lp 128 0]), (4, false, [.lp 256 0]), (5, false, [.lp 320 0]), (6, false, [.d (.int .i64)]), (7, false, [.d (.int .i64)])] 183 0, [(128, .box [.d (.int .i64), .d (.int .i64), .d (.sl .rat), .d (.sl .int), .d (.sl .rat)]), (256, .box [.d (.int .i64), .d (.int .i64), .own 11776, .own 11840, .own 11904]), (320, .box [.d (.int .i64), .d (.int .i64), .own 11776]), (11776, .arr false .rat), (11840, .arr false .int), (11904, .arr false .rat)]⟩, [(.box 256 3, 11840, .int), (.box 256 4, 11904, .rat)], [(.ret, ⟨mkSlots [(2, false, [.lp 128 0]), (3, false, [.d (.bool)])] 183 0, [(128, .box [.d (.int .i64), .d (.int .i64), .d (.sl .rat), .d (.sl .int), .d (.sl .rat)])]⟩, []), (.exit 0, ⟨mkSlots [(2, false, [.lp 128 0]), (4, false, [.lp 256 0])] 183 0, [(128, .box [.d (.int .i64), .d (.int .i64), .d (.sl .rat), .d (.sl .int), .d (.sl .rat)]), (256, .box [.d (.int .i64), .d (.int .i64), .own 11776, .own 11840, .own 11904]), (11776, .arr false .rat), (11840, .arr false .int), (11904, .arr false .rat)]⟩, [(.box 256 3, 11840, .int), (.box 256 4, 11904, .rat)])]⟩
noncomputable def D_q77_1 : LoopD := ⟨⟨mkSlots [(2, false, [.lp 128 0]), (4, false, [.lp 256 0]), (5, false, [.lp 320 0]), (6, false, [.d (.int .i64)]), (7, false, [.d (.int .i64)]), (8, false, [.d (.int .i64)])] 183 0, [(128, .box [.d (.int .i64), .d (.int .i64), .d (.sl .rat), .d (.sl .int), .d (.sl .rat)]), (256, .box [.d (.int .i64), .d (.int .i64), .own 11776, .own 11840, .own 11904]), (320, .box [.d (.int .i64), .d (.int .i64), .own 11776]), (11776, .arr false .rat), (11840, .arr false .int), (11904, .arr false .rat)]⟩, [(.box 256 3, 11840, .int), (.box 256 4, 11904, .rat)], [(.exit 2, ⟨mkSlots [(2, false, [.lp 128 0]), (4, false, [.lp 256 0]), (5, false, [.lp 320 0]), (6, false, [.d (.int .i64)]), (7, false, [.d (.int .i64)]), (8, false, [.d (.int .i64)])] 183 0, [(128, .box [.d (.int .i64), .d (.int .i64), .d (.sl .rat), .d (.sl .int), .d (.sl .rat)]), (256, .box [.d (.int .i64), .d (.int .i64), .own 11776, .own 11840, .own 11904]), (320, .box [.d (.int .i64), .d (.int .i64), .own 11776]), (11776, .arr false .rat), (11840, .arr false .int), (11904, .arr false .rat)]⟩, [(.box 256 3, 11840, .int), (.box 256 4, 11904, .rat)])]⟩
noncomputable def D_q77_2 : LoopD := ⟨⟨mkSlots [(2, false, [.lp 128 0]), (4, false, [.lp 256 0]), (5, false, [.lp 320 0]), (6, false, [.d (.int .i64)]), (7, false, [.d (.int .i64)]), (9, false, [.win 11776]), (10, false, [.win 11776]), (76, false, [.d (.int .i64)]), (77, false, [.d (.int .i64)])] 183 0, [(128, .box [.d (.int .i64), .d (.int .i64), .d (.sl .rat), .d (.sl .int), .d (.sl .rat)]), (256, .box [.d (.int .i64), .d (.int .i64), .own 11776, .own 11904, .own 11840]), (320, .box [.d (.int .i64), .d (.int .i64), .own 11776]), (11776, .arr false .rat), (11840, .arr false .rat), (11904, .arr false .int)]⟩, [(.box 256 3, 11904, .int)], [(.exit 4, ⟨mkSlots [(2, false, [.lp 128 0]), (4, false, [.lp 256 0]), (5, false, [.lp 320 0]), (6, false, [.d (.int .i64)]), (7, false, [.d (.int .i64)])] 183 0, [(128, .box [.d (.int .i64), .d (.int .i64), .d (.sl .rat), .d (.sl .int), .d (.sl .rat)]), (256, .box [.d (.int .i64), .d (.int .i64), .own 11776, .own 11904, .own 11840]), (320, .box [.d (.int .i64), .d (.int .i64), .own 11776]), (11776, .arr false .rat), (11840, .arr false .rat), (11904, .arr false .int)]⟩, [(.box 256 3, 11904, .int)])]⟩
noncomputable def D_q77_3 : LoopD := ⟨⟨mkSlots [(2, false, [.lp 128 0]), (4, false, [.lp 256 0]), (5, false, [.lp 320 0]), (6, false, [.d (.int .i64)]), (7, false, [.d (.int .i64)]), (12, false, [.win 11776]), (13, false, [.lp 832 0]), (109, false, [.d (.int .i64)]), (110, false, [.d (.int .i64)])] 183 0, [(128, .box [.d (.int .i64), .d (.int .i64), .d (.sl .rat), .d (.sl .int), .d (.sl .rat)]), (256, .box [.d (.int .i64), .d (.int .i64), .own 11776, .own 11904, .own 11840]), (320, .box [.d (.int .i64), .d (.int .i64), .own 11776]), (832, .box [.d (.bool), .d (.sl .int), .d (.sl .int)]), (11776, .arr false .rat), (11840, .arr false .rat), (11904, .arr false .int)]⟩, [(.box 256 3, 11904, .int)], [(.exit 6, ⟨mkSlots [(2, false, [.lp 128 0]), (4, false, [.lp 256 0]), (5, false, [.lp 320 0]), (6, false, [.d (.int .i64)]), (7, false, [.d (.int .i64)]), (12, false, [.win 11776])] 183 0, [(128, .box [.d (.int .i64), .d (.int .i64), .d (.sl .rat), .d (.sl .int), .d (.sl .rat)]), (256, .box [.d (.int .i64), .d (.int .i64), .own 11776, .own 11904, .own 11840]), (320, .box [.d (.int .i64), .d (.int .i64), .own 11776]), (11776, .arr false .rat), (11840, .arr false .rat), (11904, .arr false .int)]⟩, [(.box 256 3, 11904, .int)])]⟩
noncomputable def D_q77_4 : LoopD := ⟨⟨mkSlots [(2, false, [.lp 128 0]), (4, false, [.lp 256 0]), (5, false, [.lp 320 0]), (6, false, [.d (.int .i64)]), (7, false, [.d (.int .i64)]), (12, false, [.win 11776]), (128, false, [.d (.int .i64)]), (129, false, [.d (.int .i64)])] 183 0, [(128, .box [.d (.int .i64), .d (.int .i64), .d (.sl .rat), .d (.sl .int), .d (.sl .rat)]), (256, .box [.d (.int .i64), .d (.int .i64), .own 11776, .own 11904, .own 11840]), (320, .box [.d (.int .i64), .d (.int .i64), .own 11776]), (11776, .arr false .rat), (11840, .arr false .rat), (11904, .arr false .int)]⟩, [(.box 256 3, 11904, .int)], [(.ret, ⟨mkSlots [(2, false, [.lp 128 0]), (3, false, [.d (.bool)])] 183 0, [(128, .box [.d (.int .i64), .d (.int .i64), .d (.sl .rat), .d (.sl .int), .d (.sl .rat)])]⟩, []), (.exit 8, ⟨mkSlots [(2, false, [.lp 128 0]), (4, false, [.lp 256 0]), (5, false, [.lp 320 0]), (6, false, [.d (.int .i64)]), (7, false, [.d (.int .i64)])] 183 0, [(128, .box [.d (.int .i64), .d (.int .i64), .d (.sl .rat), .d (.sl .int), .d (.sl .rat)]), (256, .box [.d (.int .i64), .d (.int .i64), .own 11776, .own 11904, .own 11840]), (320, .box [.d (.int .i64), .d (.int .i64), .own 11776]), (11776, .arr false .rat), (11840, .arr false .rat), (11904, .arr false .int)]⟩, [(.box 256 3, 11904, .int)])]⟩
noncomputable def D_q77_5 : LoopD := ⟨⟨mkSlots [(2, false, [.lp 128 0]), (4, false, [.lp 256 0]), (5, false, [.lp 320 0]), (6, false, [.d (.int .i64)]), (7, false, [.d (.int .i64)]), (12, false, [.win 11776]), (16, false, [.win 11776]), (17, false, [.lp 1088 0]), (128, false, [.d (.int .i64)]), (129, false, [.d (.int .i64)]), (150, false, [.d (.int .i64)]), (151, false, [.d (.int .i64)])] 183 0, [(128, .box [.d (.int .i64), .d (.int .i64), .d (.sl .rat), .d (.sl .int), .d (.sl .rat)]), (256, .box [.d (.int .i64), .d (.int .i64), .own 11776, .own 11904, .own 11840]), (320, .box [.d (.int .i64), .d (.int .i64), .own 11776]), (1088, .box [.d (.bool), .d (.sl .int), .d (.sl .int)]), (11776, .arr false .rat), (11840, .arr false .rat), (11904, .arr false .int)]⟩, [(.box 256 3, 11904, .int)], [(.exit 10, ⟨mkSlots [(2, false, [.lp 128 0]), (4, false, [.lp 256 0]), (5, false, [.lp 320 0]), (6, false, [.d (.int .i64)]), (7, false, [.d (.int .i64)]), (12, false, [.win 11776]), (16, false, [.win 11776]), (128, false, [.d (.int .i64)]), (129, false, [.d (.int .i64)])] 183 0, [(128, .box [.d (.int .i64), .d (.int .i64), .d (.sl .rat), .d (.sl .int), .d (.sl .rat)]), (256, .box [.d (.int .i64), .d (.int .i64), .own 11776, .own 11904, .own 11840]), (320, .box [.d (.int .i64), .d (.int .i64), .own 11776]), (11776, .arr false .rat), (11840, .arr false .rat), (11904, .arr false .int)]⟩, [(.box 256 3, 11904, .int)])]⟩
noncomputable def S_q77_0_w (x : Tys D_q77_0.head.ks) : Option (OutT D_q77_0.outs) := @whileO (Int × Int × Int × Int × (List Rt) × (List Int) × (List Rt) × Int × Int × Int × Int × (List Rt) × (List Int) × (List Rt) × Unit) ((Bool × Int × Int × (List Rt) × (List Int) × (List Rt) × Unit) ⊕ (Int × Int × (List Rt) × (List Int) × (List Rt) × Int × Int × (List Rt) × (List Int) × (List Rt) × Unit)) S_impl_reduce_0 x
noncomputable def S_q77_1_w (x : Tys D_q77_1.head.ks) : Option (OutT D_q77_1.outs) := @whileO (Int × Int × Int × Int × Int × (List Rt) × (List Int) × (List Rt) × Int × Int × Int × Int × (List Rt) × (List Int) × (List Rt) × Unit) (Int × Int × Int × Int × Int × (List Rt) × (List Int) × (List Rt) × Int × Int × Int × Int × (List Rt) × (List Int) × (List Rt) × Unit) S_impl_reduce_1 x
noncomputable def S_q77_2_w (x : Tys D_q77_2.head.ks) : Option (OutT D_q77_2.outs) := @whileO (Int × Int × Nat × Nat × Nat × Nat × Int × Int × Int × Int × (List Rt) × (List Int) × (List Rt) × Int × Int × Int × Int × (List Rt) × (List Rt) × (List Int) × Unit) (Int × Int × Int × Int × (List Rt) × (List Int) × (List Rt) × Int × Int × Int × Int × (List Rt) × (List Rt) × (List Int) × Unit) S_impl_reduce_2 x
noncomputable def S_q77_3_w (x : Tys D_q77_3.head.ks) : Option (OutT D_q77_3.outs) := @whileO (Int × Int × Nat × Nat × Int × Int × Int × Int × (List Rt) × (List Int) × (List Rt) × Int × Int × Int × Int × Bool × (List Int) × (List Int) × (List Rt) × (List Rt) × (List Int) × Unit) (Int × Int × Nat × Nat × Int × Int × (List Rt) × (List Int) × (List Rt) × Int × Int × Int × Int × (List Rt) × (List Rt) × (List Int) × Unit) S_impl_reduce_3 x
noncomputable def S_q77_4_w (x : Tys D_q77_4.head.ks) : Option (OutT D_q77_4.outs) := @whileO (Int × Int × Nat × Nat × Int × Int × Int × Int × (List Rt) × (List Int) × (List Rt) × Int × Int × Int × Int × (List Rt) × (List Rt) × (List Int) × Unit) ((Bool × Int × Int × (List Rt) × (List Int) × (List Rt) × Unit) ⊕ (Int × Int × Int × Int × (List Rt) × (List Int) × (List Rt) × Int × Int × Int × Int × (List Rt) × (List Rt) × (List Int) × Unit)) S_impl_reduce_4 x
noncomputable def S_q77_5_w (x : Tys D_q77_5.head.ks) : Option (OutT D_q77_5.outs) := @whileO (Int × Int × Nat × Nat × Nat × Nat × Int × Int × Int × Int × Int × Int × (List Rt) × (List Int) × (List Rt) × Int × Int × Int × Int × Bool × (List Int) × (List Int) × (List Rt) × (List Rt) × (List Int) × Unit) (Int × Int × Nat × Nat × Nat × Nat × Int × Int × Int × Int × (List Rt) × (List Int) × (List Rt) × Int × Int × Int × Int × (List Rt) × (List Rt) × (List Int) × Unit) S_impl_reduce_5 x
noncomputable def E_q77 : Env := ⟨lay, [(40, c_q61), (21, c_q62), (41, c_q50), (19, c_q59), (42, c_q63), (43, c_q68), (44, c_q69), (46, c_q67), (45, c_q76)], [(5, mkLM D_q77_0 S_q77_0_w), (8, mkLM D_q77_1 S_q77_1_w), (15, mkLM D_q77_2 S_q77_2_w), (23, mkLM D_q77_3 S_q77_3_w), (30, mkLM D_q77_4 S_q77_4_w), (36, mkLM D_q77_5 S_q77_5_w)], [(1, [(0, []), (1, []), (2, []), (3, []), (4, []), (5, []), (6, [5, 4]), (7, []), (8, []), (9, []), (10, [9, 8, 6, 0, 1, 2, 3, 4, 5, 7])]), (12, [(0, []), (1, []), (2, []), (3, [2]), (4, [1, 3, 2, 0]), (5, []), (6, [5, 4, 0, 1, 2, 3])]), (13, [(0, []), (1, []), (3, []), (4, []), (2, [0, 1]), (5, [3, 4, 2, 0, 1]), (6, [2, 5, 0, 1, 3, 4]), (7, [5, 6, 0, 1, 2, 3, 4])]), (17, [(0, []), (1, []), (2, []), (3, []), (4, []), (5, []), (6, []), (7, []), (8, []), (9, []), (10, []), (11, []), (12, []), (13, [12, 7, 0, 1, 4, 5, 6, 11, 10, 8, 9]), (14, []), (15, [14, 11, 13, 0, 1, 2, 3, 4, 5, 6, 7, 8, 9, 10, 12])]), (25, [(0, []), (1, []), (2, []), (3, []), (4, []), (5, []), (6, []), (7, [5, 6, 4, 2, 3]), (8, []), (9, [8, 7, 0, 1, 2, 3, 4, 5, 6])]), (38, [(0, []), (1, []), (2, []), (3, []), (4, []), (5, []), (6, []), (7, []), (8, []), (9, []), (10, []), (11, [6, 10, 9, 7, 8]), (12, [5, 11, 4, 6, 10, 2, 3, 9, 7, 8]), (13, []), (14, [13, 12, 0, 1, 2, 3, 4, 5, 6, 7, 8, 9, 10, 11])])]⟩
theorem cons_q77 : ConsOk Try.prog E_q77.cons := consOk_cons m_q61 (callable_of Try.func40 (by kernel_rfl)) (consOk_cons m_q62 (callable_of Try.func21 (by kernel_rfl)) (consOk_cons m_q50 (callable_of Try.func41 (by kernel_rfl)) (consOk_cons m_q59 (callable_of Try.func19 (by kernel_rfl)) (consOk_cons m_q63 (callable_of Try.func42 (by kernel_rfl)) (consOk_cons m_q68 (callable_of Try.func43 (by kernel_rfl)) (consOk_cons m_q69 (callable_of Try.func44 (by kernel_rfl)) (consOk_cons m_q67 (callable_of Try.func46 (by kernel_rfl)) (consOk_cons m_q76 (callable_of Try.func45 (by kernel_rfl)) (consOk_nil)))))))))
theorem S_q77_5_ok (x : Tys D_q77_5.head.ks) : stepL E_q77 D_q77_5 body_q77_5 x = S_impl_reduce_5 x := by kernel_rfl
theorem loops_q77_5 : loopsIn body_q77_5 = [] := by kernel_rfl
theorem l_q77_5 : LoopOk Try.prog (mkLM D_q77_5 S_q77_5_w) body_q77_5 := loop_ok2 mix lay_ok cons_q77 (by kernel_rfl) (loops_mem loops_q77_5 (trivial)) S_q77_5_ok fun _ _ h => h
theorem S_q77_4_ok (x : Tys D_q77_4.head.ks) : stepL E_q77 D_q77_4 body_q77_4 x = S_impl_reduce_4 x := by kernel_rfl
theorem loops_q77_4 : loopsIn body_q77_4 = [body_q77_5] := by kernel_rfl
theorem l_q77_4 : LoopOk Try.prog (mkLM D_q77_4 S_q77_4_w) body_q77_4 := loop_ok2 mix lay_ok cons_q77 (by kernel_rfl) (loops_mem loops_q77_4 (⟨⟨_, by kernel_rfl, l_q77_5⟩, trivial⟩)) S_q77_4_ok fun _ _ h => h
theorem S_q77_3_ok (x : Tys D_q77_3.head.ks) : stepL E_q77 D_q77_3 body_q77_3 x = S_impl_reduce_3 x := by kernel_rfl
theorem loops_q77_3 : loopsIn body_q77_3 = [] := by kernel_rfl
theorem l_q77_3 : LoopOk Try.prog (mkLM D_q77_3 S_q77_3_w) body_q77_3 := loop_ok2 mix lay_ok cons_q77 (by kernel_rfl) (loops_mem loops_q77_3 (trivial)) S_q77_3_ok fun _ _ h => h
theorem S_q77_2_ok (x : Tys D_q77_2.head.ks) : stepL E_q77 D_q77_2 body_q77_2 x = S_impl_reduce_2 x := by kernel_rfl
theorem loops_q77_2 : loopsIn body_q77_2 = [] := by kernel_rfl
theorem l_q77_2 : LoopOk Try.prog (mkLM D_q77_2 S_q77_2_w) body_q77_2 := loop_ok2 mix lay_ok cons_q77 (by kernel_rfl) (loops_mem loops_q77_2 (trivial)) S_q77_2_ok fun _ _ h => h
theorem S_q77_1_ok (x : Tys D_q77_1.head.ks) : stepL E_q77 D_q77_1 body_q77_1 x = S_impl_reduce_1 x := by kernel_rfl
theorem loops_q77_1 : loopsIn body_q77_1 = [] := by kernel_rfl
theorem l_q77_1 : LoopOk Try.prog (mkLM D_q77_1 S_q77_1_w) body_q77_1 := loop_ok2 mix lay_ok cons_q77 (by kernel_rfl) (loops_mem loops_q77_1 (trivial)) S_q77_1_ok fun _ _ h => h
theorem S_q77_0_ok (x : Tys D_q77_0.head.ks) : stepL E_q77 D_q77_0 body_q77_0 x = S_impl_reduce_0 x := by kernel_rfl
theorem loops_q77_0 : loopsIn body_q77_0 = [body_q77_1, body_q77_2, body_q77_3, body_q77_4] := by kernel_rfl
theorem l_q77_0 : LoopOk Try.prog (mkLM D_q77_0 S_q77_0_w) body_q77_0 := loop_ok2 mix lay_ok cons_q77 (by kernel_rfl) (loops_mem loops_q77_0 (⟨⟨_, by kernel_rfl, l_q77_1⟩, ⟨⟨_, by kernel_rfl, l_q77_2⟩, ⟨⟨_, by kernel_rfl, l_q77_3⟩, ⟨⟨_, by kernel_rfl, l_q77_4⟩, trivial⟩⟩⟩⟩)) S_q77_0_ok fun _ _ h => h
theorem loops_q77 : loopsIn code_q77 = [body_q77_0] := by kernel_rfl
theorem m_q77 : Meets Try.prog 23 c_q77 := meets_of (E := E_q77) (code := code_q77) mix lay_ok cons_q77 Try.func23 (by kernel_rfl) sg_q77 (by kernel_rfl) (fun y => ((⟨y.1, y.2.1, y.2.2.1, y.2.2.2.1, y.2.2.2.2.1⟩ : Rdn), y.2.2.2.2.2.1)) c_q77.out (fun _ => rfl) c_q77.run (fun x => by kernel_rfl) (by kernel_rfl) (loops_mem loops_q77 (⟨⟨_, by kernel_rfl, l_q77_0⟩, trivial⟩))
noncomputable def sg_q78 : Sig := ⟨[(true, [.d (.int .i64), .d (.int .i64), .d (.sl .rat)])], [], true, [(true, [.d (.int .i64), .d (.int .i64), .d (.sl .rat)]), (false, [.d (.sl .int)]), (false, [.d (.bool)])], []⟩
noncomputable def c_q78 : Con := ⟨sg_q78, Mx × List Int × Bool, fun x => M_impl_Reduce (⟨x.1, x.2.1, x.2.2.1⟩ : Mx), fun r => (r.1.rows, r.1.cols, r.1.cells, r.2.1, r.2.2, ())⟩
noncomputable def code_q78 : Code := Try.f7.body.getD .skip
noncomputable def E_q78 : Env := ⟨layD, [(22, c_q46), (23, c_q77)], [], [(6, [(0, []), (1, []), (2, []), (3, []), (4, [1, 0]), (5, [3, 4, 0, 1, 2]), (6, [5, 0, 1, 2, 3, 4])])]⟩
theorem cons_q78 : ConsOk Try.prog E_q78.cons := consOk_cons m_q46 (callable_of Try.func22 (by kernel_rfl)) (consOk_cons m_q77 (callable_of Try.func23 (by kernel_rfl)) (consOk_nil))
theorem loops_q78 : loopsIn code_q78 = [] := by kernel_rfl
theorem m_q78 : Meets Try.prog 7 c_q78 := meets_of (E := E_q78) (code := code_q78) mix layD_ok cons_q78 Try.func7 (by kernel_rfl) sg_q78 (by kernel_rfl) (fun y => ((⟨y.1, y.2.1, y.2.2.1⟩ : Mx), y.2.2.2.1, y.2.2.2.2.1)) c_q78.out (fun _ => rfl) c_q78.run (fun x => by kernel_rfl) (by kernel_rfl) (loops_mem loops_q78 (trivial))
noncomputable def sg_q79 : Sig := ⟨[(false, [.d (.sl .int)]), (false, [.d (.int .i64)])], [], false, [(false, [.d (.bool)])], []⟩
noncomputable def c_q79 : Con := ⟨sg_q79, Bool, fun x => M_impl_hasInt x.1 x.2.1, fun r => (r, ())⟩
noncomputable def code_q79 : Code := Try.f18.body.getD .skip
noncomputable def body_q79_0 : Code := (loopsIn code_q79).getD 0 .skip
noncomputable def D_q79_0 : LoopD := ⟨⟨mkSlots [(1, false, [.d (.int .i64)]), (7, false, [.d (.sl .int)]), (8, false, [.d (.int .i64)]), (9, false, [.d (.int .i64)])] 17 0, []⟩, [], [(.ret, ⟨mkSlots [(4, false, [.d (.bool)])] 17 0, []⟩, []), (.exit 0, ⟨mkSlots [] 17 0, []⟩, [])]⟩
noncomputable def S_q79_0_w (x : Tys D_q79_0.head.ks) : Option (OutT D_q79_0.outs) := @whileO (Int × (List Int) × Int × Int × Unit) ((Bool × Unit) ⊕ (Unit)) S_impl_hasInt_0 x
noncomputable def E_q79 : Env := ⟨layD, [], [(2, mkLM D_q79_0 S_q79_0_w)], []⟩
theorem cons_q79 : ConsOk Try.prog E_q79.cons := consOk_nil
theorem S_q79_0_ok (x : Tys D_q79_0.head.ks) : stepL E_q79 D_q79_0 body_q79_0 x = S_impl_hasInt_0 x := by kernel_rfl
theorem loops_q79_0 : loopsIn body_q79_0 = [] := by kernel_rfl
theorem l_q79_0 : LoopOk Try.prog (mkLM D_q79_0 S_q79_0_w) body_q79_0 := loop_ok2 mix layD_ok cons_q79 (by kernel_rfl) (loops_mem loops_q79_0 (trivial)) S_q79_0_ok fun _ _ h => h
theorem loops_q79 : loopsIn code_q79 = [body_q79_0] := by kernel_rfl
theorem m_q79 : Meets Try.prog 18 c_q79 := meets_of (E := E_q79) (code := code_q79) mix layD_ok cons_q79 Try.func18 (by kernel_rfl) sg_q79 (by kernel_rfl) (fun y => y.1) c_q79.out (fun _ => rfl) c_q79.run (fun x => by kernel_rfl) (by kernel_rfl) (loops_mem loops_q79 (⟨⟨_, by kernel_rfl, l_q79_0⟩, trivial⟩))
noncomputable def sg_q80 : Sig := ⟨[(false, [.d (.int .i64)])], [], false, [(false, [.dp 0])], [(0, .deep .rat)]⟩
noncomputable def c_q80 : Con := ⟨sg_q80, List Rt, fun x => M_impl_ZeroVector x.1, fun r => (r, ())⟩
noncomputable def code_q80 : Code := Try.f11.body.getD .skip
noncomputable def body_q80_0 : Code := (loopsIn code_q80).getD 0 .skip
noncomputable def D_q80_0 : LoopD := ⟨⟨mkSlots [(3, false, [.dp 1280]), (10, false, [.d (.int .i64)]), (11, false, [.d (.int .i64)])] 19 0, [(1280, .deep .rat)]⟩, [(.slotD 3 0, 1280, .rat)], [(.exit 0, ⟨mkSlots [(3, false, [.dp 1280])] 19 0, [(1280, .deep .rat)]⟩, [(.slotD 3 0, 1280, .rat)])]⟩
noncomputable def S_q80_0_w (x : Tys D_q80_0.head.ks) : Option (OutT D_q80_0.outs) := @whileO (Int × Int × (List Rt) × Unit) ((List Rt) × Unit) S_impl_ZeroVector_0 x
noncomputable def E_q80 : Env := ⟨layD, [(19, c_q59)], [(5, mkLM D_q80_0 S_q80_0_w)], []⟩
theorem cons_q80 : ConsOk Try.prog E_q80.cons := consOk_cons m_q59 (callable_of Try.func19 (by kernel_rfl)) (consOk_nil)
theorem S_q80_0_ok (x : Tys D_q80_0.head.ks) : stepL E_q80 D_q80_0 body_q80_0 x = S_impl_ZeroVector_0 x := by kernel_rfl
theorem loops_q80_0 : loopsIn body_q80_0 = [] := by kernel_rfl
theorem l_q80_0 : LoopOk Try.prog (mkLM D_q80_0 S_q80_0_w) body_q80_0 := loop_ok2 mix layD_ok cons_q80 (by kernel_rfl) (loops_mem loops_q80_0 (trivial)) S_q80_0_ok fun _ _ h => h
theorem loops_q80 : loopsIn code_q80 = [body_q80_0] := by kernel_rfl
theorem m_q80 : Meets Try.prog 11 c_q80 := meets_of (E := E_q80) (code := code_q80) mix layD_ok cons_q80 Try.func11 (by kernel_rfl) sg_q80 (by kernel_rfl) (fun y => y.1) c_q80.out (fun _ => rfl) c_q80.run (fun x => by kernel_rfl) (by kernel_rfl) (loops_mem loops_q80 (⟨⟨_, by kernel_rfl, l_q80_0⟩, trivial⟩))
noncomputable def sg_q49 : Sig := ⟨[(true, [.d (.int .i64), .d (.int .i64), .d (.sl .rat)]), (false, [.d (.int .i64)]), (false, [.d (.int .i64)])], [], false, [(true, [.d (.bool), .d (.sl .int), .d (.sl .int)])], []⟩
noncomputable def c_q49 : Con := ⟨sg_q49, Rt, fun x => M_impl_Matrix_at (⟨x.1, x.2.1, x.2.2.1⟩ : Mx) x.2.2.2.1 x.2.2.2.2.1, fun r => (r.neg, r.mag, r.den, ())⟩
noncomputable def code_q49 : Code := Try.f21.body.getD .skip
noncomputable def E_q49 : Env := ⟨layD, [], [], []⟩
theorem cons_q49 : ConsOk Try.prog E_q49.cons := consOk_nil
theorem loops_q49 : loopsIn code_q49 = [] := by kernel_rfl
theorem m_q49 : Meets Try.prog 21 c_q49 := meets_of (E := E_q49) (code := code_q49) mix layD_ok cons_q49 Try.func21 (by kernel_rfl) sg_q49 (by kernel_rfl) (fun y => (⟨y.1, y.2.1, y.2.2.1⟩ : Rt)) c_q49.out (fun _ => rfl) c_q49.run (fun x => by kernel_rfl) (by kernel_rfl) (loops_mem loops_q49 (trivial))
noncomputable def sg_q81 : Sig := ⟨[(true, [.d (.int .i64), .d (.int .i64), .d (.sl .rat)])], [], true, [(false, [.own 0]), (false, [.d (.bool)])], [(0, .arr false .rats)]⟩
noncomputable def c_q81 : Con := ⟨sg_q81, List (List Rt) × Bool, fun x => M_impl_NullVectors (⟨x.1, x.2.1, x.2.2.1⟩ : Mx), fun r => (r.2, r.1, ())⟩
noncomputable def code_q81 : Code := Try.f6.body.getD .skip
noncomputable def body_q81_0 : Code := (loopsIn code_q81).getD 0 .skip
noncomputable def body_q81_1 : Code := (loopsIn body_q81_0).getD 0 .skip
noncomputable def D_q81_0 : LoopD := ⟨⟨mkSlots [(1, false, [.lp 64 0]), (4, false, [.lp 256 0]), (5, false, [.d (.sl .int)]), (7, false, [.own 3712]), (21, false, [.d (.int .i64)]), (22, false, [.d (.int .i64)])] 57 0, [(64, .box [.d (.int .i64), .d (.int .i64), .d (.sl .rat)]), (256, .box [.d (.int .i64), .d (.int .i64), .d (.sl .rat)]), (3712, .arr false .rats)]⟩, [(.slot 7 0, 3712, .rats)], [(.exit 0, ⟨mkSlots [(7, false, [.own 3712])] 57 0, [(3712, .arr false .rats)]⟩, [(.slot 7 0, 3712, .rats)])]⟩
noncomputable def D_q81_1 : LoopD := ⟨⟨mkSlots [(1, false, [.lp 64 0]), (4, false, [.lp 256 0]), (5, false, [.d (.sl .int)]), (7, false, [.own 3776]), (8, false, [.d (.int .i64)]), (9, false, [.dp 3712]), (21, false, [.d (.int .i64)]), (22, false, [.d (.int .i64)]), (35, false, [.d (.sl .int)]), (36, false, [.d (.int .i64)]), (37, false, [.d (.int .i64)])] 57 0, [(64, .box [.d (.int .i64), .d (.int .i64), .d (.sl .rat)]), (256, .box [.d (.int .i64), .d (.int .i64), .d (.sl .rat)]), (3712, .deep .rat), (3776, .arr false .rats)]⟩, [(.slot 7 0, 3776, .rats)], [(.exit 2, ⟨mkSlots [(1, false, [.lp 64 0]), (4, false, [.lp 256 0]), (5, false, [.d (.sl .int)]), (7, false, [.own 3776]), (9, false, [.dp 3712]), (21, false, [.d (.int .i64)]), (22, false, [.d (.int .i64)])] 57 0, [(64, .box [.d (.int .i64), .d (.int .i64), .d (.sl .rat)]), (256, .box [.d (.int .i64), .d (.int .i64), .d (.sl .rat)]), (3712, .deep .rat), (3776, .arr false .rats)]⟩, [(.slot 7 0, 3776, .rats)])]⟩
noncomputable def S_q81_0_w (x : Tys D_q81_0.head.ks) : Option (OutT D_q81_0.outs) := @whileO ((List Int) × Int × Int × Int × Int × (List Rt) × Int × Int × (List Rt) × (List (List Rt)) × Unit) ((List (List Rt)) × Unit) S_impl_NullVectors_0 x
noncomputable def S_q81_1_w (x : Tys D_q81_1.head.ks) : Option (OutT D_q81_1.outs) := @whileO ((List Int) × Int × Int × Int × (List Int) × Int × Int × Int × Int × (List Rt) × Int × Int × (List Rt) × (List Rt) × (List (List Rt)) × Unit) ((List Int) × Int × Int × Int × Int × (List Rt) × Int × Int × (List Rt) × (List Rt) × (List (List Rt)) × Unit) S_impl_NullVectors_1 x
noncomputable def E_q81 : Env := ⟨layD, [(7, c_q78), (18, c_q79), (11, c_q80), (19, c_q59), (21, c_q49), (20, c_q71)], [(6, mkLM D_q81_0 S_q81_0_w), (12, mkLM D_q81_1 S_q81_1_w)], []⟩
theorem cons_q81 : ConsOk Try.prog E_q81.cons := consOk_cons m_q78 (callable_of Try.func7 (by kernel_rfl)) (consOk_cons m_q79 (callable_of Try.func18 (by kernel_rfl)) (consOk_cons m_q80 (callable_of Try.func11 (by kernel_rfl)) (consOk_cons m_q59 (callable_of Try.func19 (by kernel_rfl)) (consOk_cons m_q49 (callable_of Try.func21 (by kernel_rfl)) (consOk_cons m_q71 (callable_of Try.func20 (by kernel_rfl)) (consOk_nil))))))
theorem S_q81_1_ok (x : Tys D_q81_1.head.ks) : stepL E_q81 D_q81_1 body_q81_1 x = S_impl_NullVectors_1 x := by kernel_rfl
theorem loops_q81_1 : loopsIn body_q81_1 = [] := by kernel_rfl
theorem l_q81_1 : LoopOk Try.prog (mkLM D_q81_1 S_q81_1_w) body_q81_1 := loop_ok2 mix layD_ok cons_q81 (by kernel_rfl) (loops_mem loops_q81_1 (trivial)) S_q81_1_ok fun _ _ h => h
theorem S_q81_0_ok (x : Tys D_q81_0.head.ks) : stepL E_q81 D_q81_0 body_q81_0 x = S_impl_NullVectors_0 x := by kernel_rfl
theorem loops_q81_0 : loopsIn body_q81_0 = [body_q81_1] := by kernel_rfl
theorem l_q81_0 : LoopOk Try.prog (mkLM D_q81_0 S_q81_0_w) body_q81_0 := loop_ok2 mix layD_ok cons_q81 (by kernel_rfl) (loops_mem loops_q81_0 (⟨⟨_, by kernel_rfl, l_q81_1⟩, trivial⟩)) S_q81_0_ok fun _ _ h => h
theorem loops_q81 : loopsIn code_q81 = [body_q81_0] := by kernel_rfl
theorem m_q81 : Meets Try.prog 6 c_q81 := meets_of (E := E_q81) (code := code_q81) mix layD_ok cons_q81 Try.func6 (by kernel_rfl) sg_q81 (by kernel_rfl) (fun y => (y.2.1, y.1)) c_q81.out (fun _ => rfl) c_q81.run (fun x => by kernel_rfl) (by kernel_rfl) (loops_mem loops_q81 (⟨⟨_, by kernel_rfl, l_q81_0⟩, trivial⟩))
noncomputable def sg_q82 : Sig := ⟨[(true, [.d (.int .i64), .d (.int .i64), .d (.sl .rat)])], [], false, [(false, [.d (.int .i64)])], []⟩
noncomputable def c_q82 : Con := ⟨sg_q82, Int, fun x => M_impl_RankOf (⟨x.1, x.2.1, x.2.2.1⟩ : Mx), fun r => (r, ())⟩
noncomputable def code_q82 : Code := Try.f8.body.getD .skip
noncomputable def E_q82 : Env := ⟨layD, [(7, c_q78)], [], []⟩
theorem cons_q82 : ConsOk Try.prog E_q82.cons := consOk_cons m_q78 (callable_of Try.func7 (by kernel_rfl)) (consOk_nil)
theorem loops_q82 : loopsIn code_q82 = [] := by kernel_rfl
theorem m_q82 : Meets Try.prog 8 c_q82 := meets_of (E := E_q82) (code := code_q82) mix layD_ok cons_q82 Try.func8 (by kernel_rfl) sg_q82 (by kernel_rfl) (fun y => y.1) c_q82.out (fun _ => rfl) c_q82.run (fun x => by kernel_rfl) (by kernel_rfl) (loops_mem loops_q82 (trivial))
noncomputable def sg_q83 : Sig := ⟨[(false, [.d (.sl .rat)])], [], false, [(false, [.d (.bool)])], []⟩
noncomputable def c_q83 : Con := ⟨sg_q83, Bool, fun x => M_impl_IsVector x.1, fun r => (r, ())⟩
noncomputable def code_q83 : Code := Try.f24.body.getD .skip
noncomputable def body_q83_0 : Code := (loopsIn code_q83).getD 0 .skip
noncomputable def D_q83_0 : LoopD := ⟨⟨mkSlots [(8, false, [.d (.sl .rat)]), (9, false, [.d (.int .i64)]), (10, false, [.d (.int .i64)])] 18 0, []⟩, [], [(.ret, ⟨mkSlots [(2, false, [.d (.bool)])] 18 0, []⟩, []), (.exit 0, ⟨mkSlots [] 18 0, []⟩, [])]⟩
noncomputable def S_q83_0_w (x : Tys D_q83_0.head.ks) : Option (OutT D_q83_0.outs) := @whileO ((List Rt) × Int × Int × Unit) ((Bool × Unit) ⊕ (Unit)) S_impl_IsVector_0 x
noncomputable def E_q83 : Env := ⟨layD, [(39, c_q45)], [(4, mkLM D_q83_0 S_q83_0_w)], []⟩
theorem cons_q83 : ConsOk Try.prog E_q83.cons := consOk_cons m_q45 (callable_of Try.func39 (by kernel_rfl)) (consOk_nil)
theorem S_q83_0_ok (x : Tys D_q83_0.head.ks) : stepL E_q83 D_q83_0 body_q83_0 x = S_impl_IsVector_0 x := by kernel_rfl
theorem loops_q83_0 : loopsIn body_q83_0 = [] := by kernel_rfl
theorem l_q83_0 : LoopOk Try.prog (mkLM D_q83_0 S_q83_0_w) body_q83_0 := loop_ok2 mix layD_ok cons_q83 (by kernel_rfl) (loops_mem loops_q83_0 (trivial)) S_q83_0_ok fun _ _ h => h
theorem loops_q83 : loopsIn code_q83 = [body_q83_0] := by kernel_rfl
theorem m_q83 : Meets Try.prog 24 c_q83 := meets_of (E := E_q83) (code := code_q83) mix layD_ok cons_q83 Try.func24 (by kernel_rfl) sg_q83 (by kernel_rfl) (fun y => y.1) c_q83.out (fun _ => rfl) c_q83.run (fun x => by kernel_rfl) (by kernel_rfl) (loops_mem loops_q83 (⟨⟨_, by kernel_rfl, l_q83_0⟩, trivial⟩))
noncomputable def sg_q60 : Sig := ⟨[(true, [.d (.int .i64), .d (.int .i64), .d (.sl .rat)]), (false, [.d (.int .i64)])], [], false, [(false, [.d (.sl .rat)])], []⟩
noncomputable def c_q60 : Con := ⟨sg_q60, List Rt, fun x => M_impl_Matrix_row (⟨x.1, x.2.1, x.2.2.1⟩ : Mx) x.2.2.2.1, fun r => (r, ())⟩
noncomputable def code_q60 : Code := Try.f42.body.getD .skip
noncomputable def E_q60 : Env := ⟨layD, [], [], []⟩
theorem cons_q60 : ConsOk Try.prog E_q60.cons := consOk_nil
theorem loops_q60 : loopsIn code_q60 = [] := by kernel_rfl
theorem m_q60 : Meets Try.prog 42 c_q60 := meets_of (E := E_q60) (code := code_q60) mix layD_ok cons_q60 Try.func42 (by kernel_rfl) sg_q60 (by kernel_rfl) (fun y => y.1) c_q60.out (fun _ => rfl) c_q60.run (fun x => by kernel_rfl) (by kernel_rfl) (loops_mem loops_q60 (trivial))
noncomputable def sg_q84 : Sig := ⟨[(false, [.d (.sl .rat)]), (false, [.d (.sl .rat)])], [], false, [(true, [.d (.bool), .own 0, .own 1])], [(0, .arr false .int), (1, .arr false .int)]⟩
noncomputable def c_q84 : Con := ⟨sg_q84, Rt, fun x => M_impl_inner x.1 x.2.1, fun r => (r.neg, r.mag, r.den, ())⟩
noncomputable def code_q84 : Code := Try.f47.body.getD .skip
noncomputable def body_q84_0 : Code := (loopsIn code_q84).getD 0 .skip
noncomputable def D_q84_0 : LoopD := ⟨⟨mkSlots [(0, false, [.d (.sl .rat)]), (1, false, [.d (.sl .rat)]), (4, false, [.lp 256 0]), (5, false, [.lp 320 0]), (9, false, [.d (.int .i64)]), (10, false, [.d (.int .i64)])] 26 0, [(256, .box [.d (.bool), .d (.sl .int), .d (.sl .int)]), (320, .box [.d (.bool), .own 1728, .own 1792]), (1728, .arr false .int), (1792, .arr false .int)]⟩, [], [(.exit 0, ⟨mkSlots [(4, false, [.lp 256 0]), (5, false, [.lp 320 0])] 26 0, [(256, .box [.d (.bool), .d (.sl .int), .d (.sl .int)]), (320, .box [.d (.bool), .own 1728, .own 1792]), (1728, .arr false .int), (1792, .arr false .int)]⟩, [])]⟩
noncomputable def S_q84_0_w (x : Tys D_q84_0.head.ks) : Option (OutT D_q84_0.outs) := @whileO ((List Rt) × (List Rt) × Int × Int × Bool × (List Int) × (List Int) × Bool × (List Int) × (List Int) × Unit) (Bool × (List Int) × (List Int) × Bool × (List Int) × (List Int) × Unit) S_impl_inner_0 x
noncomputable def E_q84 : Env := ⟨layD, [(19, c_q59), (46, c_q67), (64, c_q75)], [(3, mkLM D_q84_0 S_q84_0_w)], [(5, [(0, []), (1, []), (2, []), (3, []), (4, []), (5, []), (6, []), (7, []), (8, []), (9, [4, 8, 3, 7, 1, 2, 5, 6]), (10, [0, 9, 4, 8, 3, 7, 1, 2, 5, 6]), (11, [10, 0, 1, 2, 3, 4, 5, 6, 7, 8, 9])])]⟩
theorem cons_q84 : ConsOk Try.prog E_q84.cons := consOk_cons m_q59 (callable_of Try.func19 (by kernel_rfl)) (consOk_cons m_q67 (callable_of Try.func46 (by kernel_rfl)) (consOk_cons m_q75 (callable_of Try.func64 (by kernel_rfl)) (consOk_nil)))
theorem S_q84_0_ok (x : Tys D_q84_0.head.ks) : stepL E_q84 D_q84_0 body_q84_0 x = S_impl_inner_0 x := by kernel_rfl
theorem loops_q84_0 : loopsIn body_q84_0 = [] := by kernel_rfl
theorem l_q84_0 : LoopOk Try.prog (mkLM D_q84_0 S_q84_0_w) body_q84_0 := loop_ok2 mix layD_ok cons_q84 (by kernel_rfl) (loops_mem loops_q84_0 (trivial)) S_q84_0_ok fun _ _ h => h
theorem loops_q84 : loopsIn code_q84 = [body_q84_0] := by kernel_rfl
theorem m_q84 : Meets Try.prog 47 c_q84 := meets_of (E := E_q84) (code := code_q84) mix layD_ok cons_q84 Try.func47 (by kernel_rfl) sg_q84 (by kernel_rfl) (fun y => (⟨y.1, y.2.1, y.2.2.1⟩ : Rt)) c_q84.out (fun _ => rfl) c_q84.run (fun x => by kernel_rfl) (by kernel_rfl) (loops_mem loops_q84 (⟨⟨_, by kernel_rfl, l_q84_0⟩, trivial⟩))
noncomputable def sg_q85 : Sig := ⟨[(true, [.d (.int .i64), .d (.int .i64), .d (.sl .rat)]), (false, [.d (.sl .rat)])], [], true, [(false, [.dp 0]), (false, [.d (.bool)])], [(0, .deep .rat)]⟩
noncomputable def c_q85 : Con := ⟨sg_q85, List Rt × Bool, fun x => M_impl_applied (⟨x.1, x.2.1, x.2.2.1⟩ : Mx) x.2.2.2.1, fun r => (r.2, r.1, ())⟩
noncomputable def code_q85 : Code := Try.f25.body.getD .skip
noncomputable def body_q85_0 : Code := (loopsIn code_q85).getD 0 .skip
noncomputable def D_q85_0 : LoopD := ⟨⟨mkSlots [(1, false, [.d (.sl .rat)]), (2, false, [.lp 128 0]), (6, false, [.dp 1728]), (9, false, [.d (.int .i64)]), (10, false, [.d (.int .i64)])] 26 0, [(128, .box [.d (.int .i64), .d (.int .i64), .d (.sl .rat)]), (1728, .deep .rat)]⟩, [(.slotD 6 0, 1728, .rat)], [(.exit 0, ⟨mkSlots [(6, false, [.dp 1728])] 26 0, [(1728, .deep .rat)]⟩, [(.slotD 6 0, 1728, .rat)])]⟩
noncomputable def S_q85_0_w (x : Tys D_q85_0.head.ks) : Option (OutT D_q85_0.outs) := @whileO ((List Rt) × Int × Int × Int × Int × (List Rt) × (List Rt) × Unit) ((List Rt) × Unit) S_impl_applied_0 x
noncomputable def E_q85 : Env := ⟨layD, [(42, c_q60), (47, c_q84), (44, c_q69)], [(3, mkLM D_q85_0 S_q85_0_w)], []⟩
theorem cons_q85 : ConsOk Try.prog E_q85.cons := consOk_cons m_q60 (callable_of Try.func42 (by kernel_rfl)) (consOk_cons m_q84 (callable_of Try.func47 (by kernel_rfl)) (consOk_cons m_q69 (callable_of Try.func44 (by kernel_rfl)) (consOk_nil)))
theorem S_q85_0_ok (x : Tys D_q85_0.head.ks) : stepL E_q85 D_q85_0 body_q85_0 x = S_impl_applied_0 x := by kernel_rfl
theorem loops_q85_0 : loopsIn body_q85_0 = [] := by kernel_rfl
theorem l_q85_0 : LoopOk Try.prog (mkLM D_q85_0 S_q85_0_w) body_q85_0 := loop_ok2 mix layD_ok cons_q85 (by kernel_rfl) (loops_mem loops_q85_0 (trivial)) S_q85_0_ok fun _ _ h => h
theorem loops_q85 : loopsIn code_q85 = [body_q85_0] := by kernel_rfl
theorem m_q85 : Meets Try.prog 25 c_q85 := meets_of (E := E_q85) (code := code_q85) mix layD_ok cons_q85 Try.func25 (by kernel_rfl) sg_q85 (by kernel_rfl) (fun y => (y.2.1, y.1)) c_q85.out (fun _ => rfl) c_q85.run (fun x => by kernel_rfl) (by kernel_rfl) (loops_mem loops_q85 (⟨⟨_, by kernel_rfl, l_q85_0⟩, trivial⟩))
noncomputable def sg_q86 : Sig := ⟨[(true, [.d (.int .i64), .d (.int .i64), .d (.sl .rat)]), (false, [.d (.sl .rat)])], [], true, [(false, [.dp 0]), (false, [.d (.bool)])], [(0, .deep .rat)]⟩
noncomputable def c_q86 : Con := ⟨sg_q86, List Rt × Bool, fun x => M_impl_ApplyMatrix (⟨x.1, x.2.1, x.2.2.1⟩ : Mx) x.2.2.2.1, fun r => (r.2, r.1, ())⟩
noncomputable def code_q86 : Code := Try.f9.body.getD .skip
noncomputable def E_q86 : Env := ⟨layD, [(22, c_q46), (24, c_q83), (25, c_q85)], [], []⟩
theorem cons_q86 : ConsOk Try.prog E_q86.cons := consOk_cons m_q46 (callable_of Try.func22 (by kernel_rfl)) (consOk_cons m_q83 (callable_of Try.func24 (by kernel_rfl)) (consOk_cons m_q85 (callable_of Try.func25 (by kernel_rfl)) (consOk_nil)))
theorem loops_q86 : loopsIn code_q86 = [] := by kernel_rfl
theorem m_q86 : Meets Try.prog 9 c_q86 := meets_of (E := E_q86) (code := code_q86) mix layD_ok cons_q86 Try.func9 (by kernel_rfl) sg_q86 (by kernel_rfl) (fun y => (y.2.1, y.1)) c_q86.out (fun _ => rfl) c_q86.run (fun x => by kernel_rfl) (by kernel_rfl) (loops_mem loops_q86 (trivial))
noncomputable def sg_q87 : Sig := ⟨[(true, [.d (.bool), .d (.sl .int), .d (.sl .int)]), (true, [.d (.bool), .d (.sl .int), .d (.sl .int)])], [], false, [(false, [.d (.bool)])], []⟩
noncomputable def c_q87 : Con := ⟨sg_q87, Bool, fun x => M_impl_RatEqual (⟨x.1, x.2.1, x.2.2.1⟩ : Rt) (⟨x.2.2.2.1, x.2.2.2.2.1, x.2.2.2.2.2.1⟩ : Rt), fun r => (r, ())⟩
noncomputable def code_q87 : Code := Try.f26.body.getD .skip
noncomputable def E_q87 : Env := ⟨layD, [(48, c_q72)], [], []⟩
theorem cons_q87 : ConsOk Try.prog E_q87.cons := consOk_cons m_q72 (callable_of Try.func48 (by kernel_rfl)) (consOk_nil)
theorem loops_q87 : loopsIn code_q87 = [] := by kernel_rfl
theorem m_q87 : Meets Try.prog 26 c_q87 := meets_of (E := E_q87) (code := code_q87) mix layD_ok cons_q87 Try.func26 (by kernel_rfl) sg_q87 (by kernel_rfl) (fun y => y.1) c_q87.out (fun _ => rfl) c_q87.run (fun x => by kernel_rfl) (by kernel_rfl) (loops_mem loops_q87 (trivial))
noncomputable def sg_q88 : Sig := ⟨[(false, [.d (.sl .rat)]), (false, [.d (.sl .rat)])], [], false, [(false, [.d (.bool)])], []⟩
noncomputable def c_q88 : Con := ⟨sg_q88, Bool, fun x => M_impl_EqualVectors x.1 x.2.1, fun r => (r, ())⟩
noncomputable def code_q88 : Code := Try.f10.body.getD .skip
noncomputable def body_q88_0 : Code := (loopsIn code_q88).getD 0 .skip
noncomputable def D_q88_0 : LoopD := ⟨⟨mkSlots [(0, false, [.d (.sl .rat)]), (1, false, [.d (.sl .rat)]), (12, false, [.d (.int .i64)]), (13, false, [.d (.int .i64)])] 27 0, []⟩, [], [(.ret, ⟨mkSlots [(4, false, [.d (.bool)])] 27 0, []⟩, []), (.exit 0, ⟨mkSlots [] 27 0, []⟩, [])]⟩
noncomputable def S_q88_0_w (x : Tys D_q88_0.head.ks) : Option (OutT D_q88_0.outs) := @whileO ((List Rt) × (List Rt) × Int × Int × Unit) ((Bool × Unit) ⊕ (Unit)) S_impl_EqualVectors_0 x
noncomputable def E_q88 : Env := ⟨layD, [(26, c_q87)], [(4, mkLM D_q88_0 S_q88_0_w)], [(6, [(0, []), (1, []), (2, []), (3, []), (4, []), (5, []), (6, []), (7, []), (8, [3, 7, 2, 6, 0, 1, 4, 5]), (9, [])])]⟩
theorem cons_q88 : ConsOk Try.prog E_q88.cons := consOk_cons m_q87 (callable_of Try.func26 (by kernel_rfl)) (consOk_nil)
theorem S_q88_0_ok (x : Tys D_q88_0.head.ks) : stepL E_q88 D_q88_0 body_q88_0 x = S_impl_EqualVectors_0 x := by kernel_rfl
theorem loops_q88_0 : loopsIn body_q88_0 = [] := by kernel_rfl
theorem l_q88_0 : LoopOk Try.prog (mkLM D_q88_0 S_q88_0_w) body_q88_0 := loop_ok2 mix layD_ok cons_q88 (by kernel_rfl) (loops_mem loops_q88_0 (trivial)) S_q88_0_ok fun _ _ h => h
theorem loops_q88 : loopsIn code_q88 = [body_q88_0] := by kernel_rfl
theorem m_q88 : Meets Try.prog 10 c_q88 := meets_of (E := E_q88) (code := code_q88) mix layD_ok cons_q88 Try.func10 (by kernel_rfl) sg_q88 (by kernel_rfl) (fun y => y.1) c_q88.out (fun _ => rfl) c_q88.run (fun x => by kernel_rfl) (by kernel_rfl) (loops_mem loops_q88 (⟨⟨_, by kernel_rfl, l_q88_0⟩, trivial⟩))
noncomputable def sg_q89 : Sig := ⟨[(false, [.d (.sl .byte)])], [], false, [(false, [.d (.bool)])], []⟩
noncomputable def c_q89 : Con := ⟨sg_q89, Bool, fun x => M_laws_FnNull x.1, fun r => (r, ())⟩
noncomputable def code_q89 : Code := Try.f3.body.getD .skip
noncomputable def body_q89_0 : Code := (loopsIn code_q89).getD 0 .skip
noncomputable def D_q89_0 : LoopD := ⟨⟨mkSlots [(3, false, [.lp 192 0]), (57, false, [.own 5056]), (58, false, [.d (.int .i64)]), (59, false, [.d (.int .i64)])] 78 0, [(192, .box [.d (.int .i64), .d (.int .i64), .d (.sl .rat)]), (5056, .arr false .rats)]⟩, [], [(.ret, ⟨mkSlots [(2, false, [.d (.bool)])] 78 0, []⟩, []), (.exit 0, ⟨mkSlots [] 78 0, []⟩, [])]⟩
noncomputable def S_q89_0_w (x : Tys D_q89_0.head.ks) : Option (OutT D_q89_0.outs) := @whileO (Int × Int × Int × Int × (List Rt) × (List (List Rt)) × Unit) ((Bool × Unit) ⊕ (Unit)) S_laws_FnNull_0 x
noncomputable def E_q89 : Env := ⟨layD, [(5, c_q32), (6, c_q81), (7, c_q78), (8, c_q82), (9, c_q86), (11, c_q80), (10, c_q88)], [(9, mkLM D_q89_0 S_q89_0_w)], []⟩
theorem cons_q89 : ConsOk Try.prog E_q89.cons := consOk_cons m_q32 (callable_of Try.func5 (by kernel_rfl)) (consOk_cons m_q81 (callable_of Try.func6 (by kernel_rfl)) (consOk_cons m_q78 (callable_of Try.func7 (by kernel_rfl)) (consOk_cons m_q82 (callable_of Try.func8 (by kernel_rfl)) (consOk_cons m_q86 (callable_of Try.func9 (by kernel_rfl)) (consOk_cons m_q80 (callable_of Try.func11 (by kernel_rfl)) (consOk_cons m_q88 (callable_of Try.func10 (by kernel_rfl)) (consOk_nil)))))))
theorem S_q89_0_ok (x : Tys D_q89_0.head.ks) : stepL E_q89 D_q89_0 body_q89_0 x = S_laws_FnNull_0 x := by kernel_rfl
theorem loops_q89_0 : loopsIn body_q89_0 = [] := by kernel_rfl
theorem l_q89_0 : LoopOk Try.prog (mkLM D_q89_0 S_q89_0_w) body_q89_0 := loop_ok2 mix layD_ok cons_q89 (by kernel_rfl) (loops_mem loops_q89_0 (trivial)) S_q89_0_ok fun _ _ h => h
theorem loops_q89 : loopsIn code_q89 = [body_q89_0] := by kernel_rfl
theorem m_q89 : Meets Try.prog 3 c_q89 := meets_of (E := E_q89) (code := code_q89) mix layD_ok cons_q89 Try.func3 (by kernel_rfl) sg_q89 (by kernel_rfl) (fun y => y.1) c_q89.out (fun _ => rfl) c_q89.run (fun x => by kernel_rfl) (by kernel_rfl) (loops_mem loops_q89 (⟨⟨_, by kernel_rfl, l_q89_0⟩, trivial⟩))
end Go.Proofs.Ytgimphipdnieaaa.WNull
