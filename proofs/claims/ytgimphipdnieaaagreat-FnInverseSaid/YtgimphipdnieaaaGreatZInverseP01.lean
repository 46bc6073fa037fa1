/-
  Own work: part 8 of the texts that the proof of the given statement leans on.
-/
import Derived.Test.YtgimphipdnieaaaGreatProg
import Derived.Test.YtgimphipdnieaaaGreatZInverseP00
open Go Go.Di Go.Proofs
namespace Go.Proofs.YtgimphipdnieaaaGreat.WInverse
noncomputable def lay : List (TypeId × TI) := [
  (3, ⟨false, [.d (.int .i64 0)], [], none, some (.int .i64), false, false⟩),
  (4, ⟨false, [.d (.bool false)], [], none, some .bool, false, false⟩),
  (5, ⟨false, [.d (.int .u8 0)], [], none, some (.int .u8), false, false⟩),
  (22, ⟨false, [.mt], [], some .byte, none, false, false⟩),
  (23, ⟨false, [.mt], [], some .rat, none, false, false⟩),
  (25, ⟨true, [.d (.int .i64 0), .d (.int .i64 0), .mt], [(0, 1, false), (1, 1, false), (2, 1, false)], none, none, true, false⟩),
  (30, ⟨false, [.mt], [], some .int, none, false, false⟩),
  (32, ⟨true, [.d (.bool false), .mt], [(0, 1, false), (1, 1, false)], none, none, true, false⟩),
  (34, ⟨true, [.d (.bool false), .mt, .mt], [(0, 2, true), (2, 1, false)], none, none, true, false⟩),
  (84, ⟨true, [.d (.int .i64 0), .d (.int .i64 0), .mt, .mt, .mt], [(0, 3, true), (3, 1, false), (4, 1, false)], none, none, true, false⟩),
  (123, ⟨true, [.mt, .d (.int .i64 0), .d (.int .i64 0)], [(0, 1, false), (1, 1, false), (2, 1, false)], none, none, true, false⟩)]
noncomputable def layD : List (TypeId × TI) := [
  (3, ⟨false, [.d (.int .i64 0)], [], none, some (.int .i64), false, false⟩),
  (4, ⟨false, [.d (.bool false)], [], none, some .bool, false, false⟩),
  (5, ⟨false, [.d (.int .u8 0)], [], none, some (.int .u8), false, false⟩),
  (22, ⟨false, [.mt], [], some .byte, none, false, false⟩),
  (23, ⟨false, [.mt], [], some .rat, none, false, true⟩),
  (25, ⟨true, [.d (.int .i64 0), .d (.int .i64 0), .mt], [(0, 1, false), (1, 1, false), (2, 1, false)], none, none, true, false⟩),
  (30, ⟨false, [.mt], [], some .int, none, false, false⟩),
  (32, ⟨true, [.d (.bool false), .mt], [(0, 1, false), (1, 1, false)], none, none, true, false⟩),
  (34, ⟨true, [.d (.bool false), .mt, .mt], [(0, 2, true), (2, 1, false)], none, none, true, false⟩),
  (84, ⟨true, [.d (.int .i64 0), .d (.int .i64 0), .mt, .mt, .mt], [(0, 3, true), (3, 1, false), (4, 1, false)], none, none, true, false⟩),
  (123, ⟨true, [.mt, .d (.int .i64 0), .d (.int .i64 0)], [(0, 1, false), (1, 1, false), (2, 1, false)], none, none, true, false⟩)]
theorem lay_ok : LayOk Tryz.prog lay := layOk_ok (by kernel_rfl)
theorem layD_ok : LayOk Tryz.prog layD := layOk_ok (by kernel_rfl)
theorem mix : Tryz.prog.follows .mixedOrders = true := by kernel_rfl
noncomputable def sg_q1 : Sig := ⟨[(false, [.d (.sl .byte)])], [], false, [(false, [.lp 0 0])], [(0, .box [.d (.sl .byte), .d (.int .i64), .d (.int .i64)])]⟩
noncomputable def c_q1 : Con := ⟨sg_q1, Cur, fun x => M_spec_l01New x.1, fun r => (r.b, r.i, r.h, ())⟩
noncomputable def code_q1 : Code := Tryz.f82.body.getD .skip
noncomputable def body_q1_0 : Code := (loopsIn code_q1).getD 0 .skip
noncomputable def D_q1_0 : LoopD := ⟨⟨mkSlots [(0, false, [.d (.sl .byte)]), (3, false, [.d (.int .i64)]), (4, false, [.d (.int .i64)])] 32 0, []⟩, [], [(.exit 0, ⟨mkSlots [(0, false, [.d (.sl .byte)]), (3, false, [.d (.int .i64)])] 32 0, []⟩, [])]⟩
noncomputable def S_q1_0_w (x : Tys D_q1_0.head.ks) : Option (OutT D_q1_0.outs) := @whileO ((List Int) × Int × Int × Unit) ((List Int) × Int × Unit) S_spec_l01New_0 x
noncomputable def E_q1 : Env := ⟨layD, [], [(3, mkLM D_q1_0 S_q1_0_w)], []⟩
theorem cons_q1 : ConsOk Tryz.prog E_q1.cons := consOk_nil
theorem S_q1_0_ok (x : Tys D_q1_0.head.ks) : stepL E_q1 D_q1_0 body_q1_0 x = S_spec_l01New_0 x := by kernel_rfl
theorem loops_q1_0 : loopsIn body_q1_0 = [] := by kernel_rfl
theorem l_q1_0 : LoopOk Tryz.prog (mkLM D_q1_0 S_q1_0_w) body_q1_0 := loop_ok2 mix layD_ok cons_q1 (by kernel_rfl) (loops_mem loops_q1_0 (trivial)) S_q1_0_ok fun _ _ h => h
theorem loops_q1 : loopsIn code_q1 = [body_q1_0] := by kernel_rfl
theorem m_q1 : Meets Tryz.prog 82 c_q1 := meets_of (E := E_q1) (code := code_q1) mix layD_ok cons_q1 Tryz.func82 (by kernel_rfl) sg_q1 (by kernel_rfl) (fun y => (⟨y.1, y.2.1, y.2.2.1⟩ : Cur)) c_q1.out (fun _ => rfl) c_q1.run (fun x => by kernel_rfl) (by kernel_rfl) (loops_mem loops_q1 (⟨⟨_, by kernel_rfl, l_q1_0⟩, trivial⟩))
noncomputable def sg_q2 : Sig := ⟨[(false, [.lp 63 0])], [(63, .box [.d (.sl .byte), .d (.int .i64), .d (.int .i64)])], false, [(false, [.d (.int .i64)])], [(63, .box [.d (.sl .byte), .d (.int .i64), .d (.int .i64)])]⟩
noncomputable def c_q2 : Con := ⟨sg_q2, Int × Cur, fun x => M_spec_l01Byte (⟨x.1, x.2.1, x.2.2.1⟩ : Cur), fun r => (r.1, r.2.b, r.2.i, r.2.h, ())⟩
noncomputable def code_q2 : Code := Tryz.f116.body.getD .skip
noncomputable def E_q2 : Env := ⟨layD, [], [], [(2, [(0, []), (1, []), (2, []), (3, []), (4, []), (5, []), (6, []), (7, []), (8, []), (9, []), (10, []), (11, []), (12, [11, 0, 1, 2, 3, 4, 5, 6, 7, 8, 9, 10])]), (3, [(0, []), (1, []), (2, []), (3, []), (4, []), (5, []), (6, []), (7, []), (8, []), (9, [])]), (4, [(0, []), (1, []), (2, []), (3, []), (4, []), (5, []), (6, []), (7, []), (8, []), (9, []), (10, []), (11, []), (12, []), (13, []), (14, [13, 0, 1, 2, 3, 4, 5, 6, 7, 8, 9, 10, 11, 12])])]⟩
theorem cons_q2 : ConsOk Tryz.prog E_q2.cons := consOk_nil
theorem loops_q2 : loopsIn code_q2 = [] := by kernel_rfl
theorem m_q2 : Meets Tryz.prog 116 c_q2 := meets_of (E := E_q2) (code := code_q2) mix layD_ok cons_q2 Tryz.func116 (by kernel_rfl) sg_q2 (by kernel_rfl) (fun y => (y.1, (⟨y.2.1, y.2.2.1, y.2.2.2.1⟩ : Cur))) c_q2.out (fun _ => rfl) c_q2.run (fun x => by kernel_rfl) (by kernel_rfl) (loops_mem loops_q2 (trivial))
noncomputable def sg_q3 : Sig := ⟨[(false, [.d (.sl .byte)]), (false, [.d (.int .i64)])], [], false, [(false, [.lp 0 0])], [(0, .box [.d (.sl .byte), .d (.int .i64), .d (.int .i64)])]⟩
noncomputable def c_q3 : Con := ⟨sg_q3, Cur, fun x => M_spec_l30New x.1 x.2.1, fun r => (r.b, r.i, r.h, ())⟩
noncomputable def code_q3 : Code := Tryz.f62.body.getD .skip
noncomputable def body_q3_0 : Code := (loopsIn code_q3).getD 0 .skip
noncomputable def D_q3_0 : LoopD := ⟨⟨mkSlots [(1, false, [.d (.int .i64)]), (5, false, [.lp 512 0]), (6, false, [.d (.int .i64)])] 17 0, [(512, .box [.d (.sl .byte), .d (.int .i64), .d (.int .i64)])]⟩, [], [(.exit 0, ⟨mkSlots [(5, false, [.lp 512 0])] 17 0, [(512, .box [.d (.sl .byte), .d (.int .i64), .d (.int .i64)])]⟩, [])]⟩
noncomputable def S_q3_0_w (x : Tys D_q3_0.head.ks) : Option (OutT D_q3_0.outs) := @whileO (Int × Int × (List Int) × Int × Int × Unit) ((List Int) × Int × Int × Unit) S_spec_l30New_0 x
noncomputable def E_q3 : Env := ⟨layD, [(82, c_q1), (116, c_q2)], [(3, mkLM D_q3_0 S_q3_0_w)], []⟩
theorem cons_q3 : ConsOk Tryz.prog E_q3.cons := consOk_cons m_q1 (callable_of Tryz.func82 (by kernel_rfl)) (consOk_cons m_q2 (callable_of Tryz.func116 (by kernel_rfl)) (consOk_nil))
theorem S_q3_0_ok (x : Tys D_q3_0.head.ks) : stepL E_q3 D_q3_0 body_q3_0 x = S_spec_l30New_0 x := by kernel_rfl
theorem loops_q3_0 : loopsIn body_q3_0 = [] := by kernel_rfl
theorem l_q3_0 : LoopOk Tryz.prog (mkLM D_q3_0 S_q3_0_w) body_q3_0 := loop_ok2 mix layD_ok cons_q3 (by kernel_rfl) (loops_mem loops_q3_0 (trivial)) S_q3_0_ok fun _ _ h => h
theorem loops_q3 : loopsIn code_q3 = [body_q3_0] := by kernel_rfl
theorem m_q3 : Meets Tryz.prog 62 c_q3 := meets_of (E := E_q3) (code := code_q3) mix layD_ok cons_q3 Tryz.func62 (by kernel_rfl) sg_q3 (by kernel_rfl) (fun y => (⟨y.1, y.2.1, y.2.2.1⟩ : Cur)) c_q3.out (fun _ => rfl) c_q3.run (fun x => by kernel_rfl) (by kernel_rfl) (loops_mem loops_q3 (⟨⟨_, by kernel_rfl, l_q3_0⟩, trivial⟩))
noncomputable def sg_q4 : Sig := ⟨[(false, [.lp 63 0]), (false, [.d (.int .i64)])], [(63, .box [.d (.sl .byte), .d (.int .i64), .d (.int .i64)])], false, [(false, [.d (.int .i64)])], [(63, .box [.d (.sl .byte), .d (.int .i64), .d (.int .i64)])]⟩
noncomputable def c_q4 : Con := ⟨sg_q4, Int × Cur, fun x => M_spec_l01Below (⟨x.2.1, x.2.2.1, x.2.2.2.1⟩ : Cur) x.1, fun r => (r.1, r.2.b, r.2.i, r.2.h, ())⟩
noncomputable def code_q4 : Code := Tryz.f140.body.getD .skip
noncomputable def E_q4 : Env := ⟨layD, [(116, c_q2)], [], []⟩
theorem cons_q4 : ConsOk Tryz.prog E_q4.cons := consOk_cons m_q2 (callable_of Tryz.func116 (by kernel_rfl)) (consOk_nil)
theorem loops_q4 : loopsIn code_q4 = [] := by kernel_rfl
theorem m_q4 : Meets Tryz.prog 140 c_q4 := meets_of (E := E_q4) (code := code_q4) mix layD_ok cons_q4 Tryz.func140 (by kernel_rfl) sg_q4 (by kernel_rfl) (fun y => (y.1, (⟨y.2.1, y.2.2.1, y.2.2.2.1⟩ : Cur))) c_q4.out (fun _ => rfl) c_q4.run (fun x => by kernel_rfl) (by kernel_rfl) (loops_mem loops_q4 (trivial))
noncomputable def sg_q5 : Sig := ⟨[(false, [.lp 63 0]), (false, [.d (.int .i64)])], [(63, .box [.d (.sl .byte), .d (.int .i64), .d (.int .i64)])], false, [(false, [.d (.bool)])], [(63, .box [.d (.sl .byte), .d (.int .i64), .d (.int .i64)])]⟩
noncomputable def c_q5 : Con := ⟨sg_q5, Bool × Cur, fun x => M_spec_l01Once (⟨x.2.1, x.2.2.1, x.2.2.2.1⟩ : Cur) x.1, fun r => (r.1, r.2.b, r.2.i, r.2.h, ())⟩
noncomputable def code_q5 : Code := Tryz.f167.body.getD .skip
noncomputable def E_q5 : Env := ⟨layD, [(140, c_q4)], [], []⟩
theorem cons_q5 : ConsOk Tryz.prog E_q5.cons := consOk_cons m_q4 (callable_of Tryz.func140 (by kernel_rfl)) (consOk_nil)
theorem loops_q5 : loopsIn code_q5 = [] := by kernel_rfl
theorem m_q5 : Meets Tryz.prog 167 c_q5 := meets_of (E := E_q5) (code := code_q5) mix layD_ok cons_q5 Tryz.func167 (by kernel_rfl) sg_q5 (by kernel_rfl) (fun y => (y.1, (⟨y.2.1, y.2.2.1, y.2.2.2.1⟩ : Cur))) c_q5.out (fun _ => rfl) c_q5.run (fun x => by kernel_rfl) (by kernel_rfl) (loops_mem loops_q5 (trivial))
noncomputable def sg_q6 : Sig := ⟨[(false, [.d (.sl .int)])], [], false, [(false, [.d (.sl .int)])], []⟩
noncomputable def c_q6 : Con := ⟨sg_q6, List Int, fun x => M_spec_l02Trim x.1, fun r => (r, ())⟩
noncomputable def code_q6 : Code := Tryz.f181.body.getD .skip
noncomputable def body_q6_0 : Code := (loopsIn code_q6).getD 0 .skip
noncomputable def D_q6_0 : LoopD := ⟨⟨mkSlots [(0, false, [.d (.sl .int)]), (3, false, [.d (.int .i64)])] 21 0, []⟩, [], [(.exit 0, ⟨mkSlots [(0, false, [.d (.sl .int)]), (3, false, [.d (.int .i64)])] 21 0, []⟩, [])]⟩
noncomputable def S_q6_0_w (x : Tys D_q6_0.head.ks) : Option (OutT D_q6_0.outs) := @whileO ((List Int) × Int × Unit) ((List Int) × Int × Unit) S_spec_l02Trim_0 x
noncomputable def E_q6 : Env := ⟨layD, [], [(2, mkLM D_q6_0 S_q6_0_w)], []⟩
theorem cons_q6 : ConsOk Tryz.prog E_q6.cons := consOk_nil
theorem S_q6_0_ok (x : Tys D_q6_0.head.ks) : stepL E_q6 D_q6_0 body_q6_0 x = S_spec_l02Trim_0 x := by kernel_rfl
theorem loops_q6_0 : loopsIn body_q6_0 = [] := by kernel_rfl
theorem l_q6_0 : LoopOk Tryz.prog (mkLM D_q6_0 S_q6_0_w) body_q6_0 := loop_ok2 mix layD_ok cons_q6 (by kernel_rfl) (loops_mem loops_q6_0 (trivial)) S_q6_0_ok fun _ _ h => h
theorem loops_q6 : loopsIn code_q6 = [body_q6_0] := by kernel_rfl
theorem m_q6 : Meets Tryz.prog 181 c_q6 := meets_of (E := E_q6) (code := code_q6) mix layD_ok cons_q6 Tryz.func181 (by kernel_rfl) sg_q6 (by kernel_rfl) (fun y => y.1) c_q6.out (fun _ => rfl) c_q6.run (fun x => by kernel_rfl) (by kernel_rfl) (loops_mem loops_q6 (⟨⟨_, by kernel_rfl, l_q6_0⟩, trivial⟩))
noncomputable def sg_q7 : Sig := ⟨[(false, [.d (.sl .int)])], [], false, [(false, [.d (.sl .int)])], []⟩
noncomputable def c_q7 : Con := ⟨sg_q7, List Int, fun x => M_spec_l02Cap x.1, fun r => (r, ())⟩
noncomputable def code_q7 : Code := Tryz.f185.body.getD .skip
noncomputable def E_q7 : Env := ⟨layD, [(181, c_q6)], [], []⟩
theorem cons_q7 : ConsOk Tryz.prog E_q7.cons := consOk_cons m_q6 (callable_of Tryz.func181 (by kernel_rfl)) (consOk_nil)
theorem loops_q7 : loopsIn code_q7 = [] := by kernel_rfl
theorem m_q7 : Meets Tryz.prog 185 c_q7 := meets_of (E := E_q7) (code := code_q7) mix layD_ok cons_q7 Tryz.func185 (by kernel_rfl) sg_q7 (by kernel_rfl) (fun y => y.1) c_q7.out (fun _ => rfl) c_q7.run (fun x => by kernel_rfl) (by kernel_rfl) (loops_mem loops_q7 (trivial))
noncomputable def sg_q8 : Sig := ⟨[(false, [.d (.bool)]), (false, [.d (.sl .int)])], [], false, [(true, [.d (.bool), .own 0])], [(0, .arr false .int)]⟩
noncomputable def c_q8 : Con := ⟨sg_q8, Bg, fun x => M_spec_l03Make x.1 x.2.1, fun r => (r.neg, r.mag, ())⟩
noncomputable def code_q8 : Code := Tryz.f165.body.getD .skip
noncomputable def E_q8 : Env := ⟨layD, [(185, c_q7)], [], []⟩
theorem cons_q8 : ConsOk Tryz.prog E_q8.cons := consOk_cons m_q7 (callable_of Tryz.func185 (by kernel_rfl)) (consOk_nil)
theorem loops_q8 : loopsIn code_q8 = [] := by kernel_rfl
theorem m_q8 : Meets Tryz.prog 165 c_q8 := meets_of (E := E_q8) (code := code_q8) mix layD_ok cons_q8 Tryz.func165 (by kernel_rfl) sg_q8 (by kernel_rfl) (fun y => (⟨y.1, y.2.1⟩ : Bg)) c_q8.out (fun _ => rfl) c_q8.run (fun x => by kernel_rfl) (by kernel_rfl) (loops_mem loops_q8 (trivial))
noncomputable def sg_q9 : Sig := ⟨[(false, [.d (.int .i64)])], [], false, [(false, [.own 0])], [(0, .arr false .int)]⟩
noncomputable def c_q9 : Con := ⟨sg_q9, List Int, fun x => M_spec_NatOf x.1, fun r => (r, ())⟩
noncomputable def code_q9 : Code := Tryz.f180.body.getD .skip
noncomputable def body_q9_0 : Code := (loopsIn code_q9).getD 0 .skip
noncomputable def D_q9_0 : LoopD := ⟨⟨mkSlots [(0, false, [.d (.int .i64)]), (3, false, [.own 1024])] 15 0, [(1024, .arr false .int)]⟩, [(.slot 3 0, 1024, .int)], [(.exit 0, ⟨mkSlots [(3, false, [.own 1024])] 15 0, [(1024, .arr false .int)]⟩, [(.slot 3 0, 1024, .int)])]⟩
noncomputable def S_q9_0_w (x : Tys D_q9_0.head.ks) : Option (OutT D_q9_0.outs) := @whileO (Int × (List Int) × Unit) ((List Int) × Unit) S_spec_NatOf_0 x
noncomputable def E_q9 : Env := ⟨layD, [], [(2, mkLM D_q9_0 S_q9_0_w)], []⟩
theorem cons_q9 : ConsOk Tryz.prog E_q9.cons := consOk_nil
theorem S_q9_0_ok (x : Tys D_q9_0.head.ks) : stepL E_q9 D_q9_0 body_q9_0 x = S_spec_NatOf_0 x := by kernel_rfl
theorem loops_q9_0 : loopsIn body_q9_0 = [] := by kernel_rfl
theorem l_q9_0 : LoopOk Tryz.prog (mkLM D_q9_0 S_q9_0_w) body_q9_0 := loop_ok2 mix layD_ok cons_q9 (by kernel_rfl) (loops_mem loops_q9_0 (trivial)) S_q9_0_ok fun _ _ h => h
theorem loops_q9 : loopsIn code_q9 = [body_q9_0] := by kernel_rfl
theorem m_q9 : Meets Tryz.prog 180 c_q9 := meets_of (E := E_q9) (code := code_q9) mix layD_ok cons_q9 Tryz.func180 (by kernel_rfl) sg_q9 (by kernel_rfl) (fun y => y.1) c_q9.out (fun _ => rfl) c_q9.run (fun x => by kernel_rfl) (by kernel_rfl) (loops_mem loops_q9 (⟨⟨_, by kernel_rfl, l_q9_0⟩, trivial⟩))
noncomputable def sg_q10 : Sig := ⟨[(false, [.d (.int .i64)])], [], false, [(true, [.d (.bool), .own 0])], [(0, .arr false .int)]⟩
noncomputable def c_q10 : Con := ⟨sg_q10, Bg, fun x => M_spec_BigIntOf x.1, fun r => (r.neg, r.mag, ())⟩
noncomputable def code_q10 : Code := Tryz.f152.body.getD .skip
noncomputable def E_q10 : Env := ⟨layD, [(165, c_q8), (180, c_q9)], [], []⟩
theorem cons_q10 : ConsOk Tryz.prog E_q10.cons := consOk_cons m_q8 (callable_of Tryz.func165 (by kernel_rfl)) (consOk_cons m_q9 (callable_of Tryz.func180 (by kernel_rfl)) (consOk_nil))
theorem loops_q10 : loopsIn code_q10 = [] := by kernel_rfl
theorem m_q10 : Meets Tryz.prog 152 c_q10 := meets_of (E := E_q10) (code := code_q10) mix layD_ok cons_q10 Tryz.func152 (by kernel_rfl) sg_q10 (by kernel_rfl) (fun y => (⟨y.1, y.2.1⟩ : Bg)) c_q10.out (fun _ => rfl) c_q10.run (fun x => by kernel_rfl) (by kernel_rfl) (loops_mem loops_q10 (trivial))
noncomputable def sg_q11 : Sig := ⟨[(false, [.d (.int .i64)]), (false, [.d (.int .i64)]), (false, [.d (.int .i64)])], [], false, [(false, [.d (.bool)])], []⟩
noncomputable def c_q11 : Con := ⟨sg_q11, Bool, fun x => M_spec_l01In x.1 x.2.1 x.2.2.1, fun r => (r, ())⟩
noncomputable def code_q11 : Code := Tryz.f146.body.getD .skip
noncomputable def E_q11 : Env := ⟨layD, [], [], []⟩
theorem cons_q11 : ConsOk Tryz.prog E_q11.cons := consOk_nil
theorem loops_q11 : loopsIn code_q11 = [] := by kernel_rfl
theorem m_q11 : Meets Tryz.prog 146 c_q11 := meets_of (E := E_q11) (code := code_q11) mix layD_ok cons_q11 Tryz.func146 (by kernel_rfl) sg_q11 (by kernel_rfl) (fun y => y.1) c_q11.out (fun _ => rfl) c_q11.run (fun x => by kernel_rfl) (by kernel_rfl) (loops_mem loops_q11 (trivial))
noncomputable def sg_q12 : Sig := ⟨[(false, [.d (.sl .int)])], [], false, [(false, [.d (.bool)])], []⟩
noncomputable def c_q12 : Con := ⟨sg_q12, Bool, fun x => M_spec_NatOk x.1, fun r => (r, ())⟩
noncomputable def code_q12 : Code := Tryz.f178.body.getD .skip
noncomputable def body_q12_0 : Code := (loopsIn code_q12).getD 0 .skip
noncomputable def D_q12_0 : LoopD := ⟨⟨mkSlots [(0, false, [.d (.sl .int)]), (5, false, [.d (.sl .int)]), (6, false, [.d (.int .i64)]), (7, false, [.d (.int .i64)])] 32 0, []⟩, [], [(.ret, ⟨mkSlots [(2, false, [.d (.bool)])] 32 0, []⟩, []), (.exit 0, ⟨mkSlots [(0, false, [.d (.sl .int)])] 32 0, []⟩, [])]⟩
noncomputable def S_q12_0_w (x : Tys D_q12_0.head.ks) : Option (OutT D_q12_0.outs) := @whileO ((List Int) × (List Int) × Int × Int × Unit) ((Bool × Unit) ⊕ ((List Int) × Unit)) S_spec_NatOk_0 x
noncomputable def E_q12 : Env := ⟨layD, [(146, c_q11)], [(2, mkLM D_q12_0 S_q12_0_w)], []⟩
theorem cons_q12 : ConsOk Tryz.prog E_q12.cons := consOk_cons m_q11 (callable_of Tryz.func146 (by kernel_rfl)) (consOk_nil)
theorem S_q12_0_ok (x : Tys D_q12_0.head.ks) : stepL E_q12 D_q12_0 body_q12_0 x = S_spec_NatOk_0 x := by kernel_rfl
theorem loops_q12_0 : loopsIn body_q12_0 = [] := by kernel_rfl
theorem l_q12_0 : LoopOk Tryz.prog (mkLM D_q12_0 S_q12_0_w) body_q12_0 := loop_ok2 mix layD_ok cons_q12 (by kernel_rfl) (loops_mem loops_q12_0 (trivial)) S_q12_0_ok fun _ _ h => h
theorem loops_q12 : loopsIn code_q12 = [body_q12_0] := by kernel_rfl
theorem m_q12 : Meets Tryz.prog 178 c_q12 := meets_of (E := E_q12) (code := code_q12) mix layD_ok cons_q12 Tryz.func178 (by kernel_rfl) sg_q12 (by kernel_rfl) (fun y => y.1) c_q12.out (fun _ => rfl) c_q12.run (fun x => by kernel_rfl) (by kernel_rfl) (loops_mem loops_q12 (⟨⟨_, by kernel_rfl, l_q12_0⟩, trivial⟩))
noncomputable def sg_q13 : Sig := ⟨[(true, [.d (.bool), .d (.sl .int)])], [], false, [(false, [.d (.bool)])], []⟩
noncomputable def c_q13 : Con := ⟨sg_q13, Bool, fun x => M_spec_BigIntOk (⟨x.1, x.2.1⟩ : Bg), fun r => (r, ())⟩
noncomputable def code_q13 : Code := Tryz.f177.body.getD .skip
noncomputable def E_q13 : Env := ⟨layD, [(178, c_q12)], [], []⟩
theorem cons_q13 : ConsOk Tryz.prog E_q13.cons := consOk_cons m_q12 (callable_of Tryz.func178 (by kernel_rfl)) (consOk_nil)
theorem loops_q13 : loopsIn code_q13 = [] := by kernel_rfl
theorem m_q13 : Meets Tryz.prog 177 c_q13 := meets_of (E := E_q13) (code := code_q13) mix layD_ok cons_q13 Tryz.func177 (by kernel_rfl) sg_q13 (by kernel_rfl) (fun y => y.1) c_q13.out (fun _ => rfl) c_q13.run (fun x => by kernel_rfl) (by kernel_rfl) (loops_mem loops_q13 (trivial))
noncomputable def sg_q14 : Sig := ⟨[(false, [.d (.sl .int)])], [], false, [(false, [.d (.bool)])], []⟩
noncomputable def c_q14 : Con := ⟨sg_q14, Bool, fun x => M_spec_l04One x.1, fun r => (r, ())⟩
noncomputable def code_q14 : Code := Tryz.f173.body.getD .skip
noncomputable def E_q14 : Env := ⟨layD, [], [], []⟩
theorem cons_q14 : ConsOk Tryz.prog E_q14.cons := consOk_nil
theorem loops_q14 : loopsIn code_q14 = [] := by kernel_rfl
theorem m_q14 : Meets Tryz.prog 173 c_q14 := meets_of (E := E_q14) (code := code_q14) mix layD_ok cons_q14 Tryz.func173 (by kernel_rfl) sg_q14 (by kernel_rfl) (fun y => y.1) c_q14.out (fun _ => rfl) c_q14.run (fun x => by kernel_rfl) (by kernel_rfl) (loops_mem loops_q14 (trivial))
noncomputable def sg_q15 : Sig := ⟨[(false, [.d (.sl .int)]), (false, [.d (.sl .int)])], [], false, [(false, [.d (.int .i64)])], []⟩
noncomputable def c_q15 : Con := ⟨sg_q15, Int, fun x => M_spec_l02Cmp x.1 x.2.1, fun r => (r, ())⟩
noncomputable def code_q15 : Code := Tryz.f191.body.getD .skip
noncomputable def body_q15_0 : Code := (loopsIn code_q15).getD 0 .skip
noncomputable def D_q15_0 : LoopD := ⟨⟨mkSlots [(0, false, [.d (.sl .int)]), (1, false, [.d (.sl .int)]), (5, false, [.d (.int .i64)])] 41 0, []⟩, [], [(.ret, ⟨mkSlots [(4, false, [.d (.int .i64)])] 41 0, []⟩, []), (.exit 0, ⟨mkSlots [] 41 0, []⟩, [])]⟩
noncomputable def S_q15_0_w (x : Tys D_q15_0.head.ks) : Option (OutT D_q15_0.outs) := @whileO ((List Int) × (List Int) × Int × Unit) ((Int × Unit) ⊕ (Unit)) S_spec_l02Cmp_0 x
noncomputable def E_q15 : Env := ⟨layD, [], [(6, mkLM D_q15_0 S_q15_0_w)], [(8, [(0, []), (1, []), (2, []), (3, []), (4, []), (5, []), (6, []), (7, []), (8, [])]), (10, [(0, []), (1, []), (2, []), (3, []), (4, []), (5, []), (6, []), (7, []), (8, [])])]⟩
theorem cons_q15 : ConsOk Tryz.prog E_q15.cons := consOk_nil
theorem S_q15_0_ok (x : Tys D_q15_0.head.ks) : stepL E_q15 D_q15_0 body_q15_0 x = S_spec_l02Cmp_0 x := by kernel_rfl
theorem loops_q15_0 : loopsIn body_q15_0 = [] := by kernel_rfl
theorem l_q15_0 : LoopOk Tryz.prog (mkLM D_q15_0 S_q15_0_w) body_q15_0 := loop_ok2 mix layD_ok cons_q15 (by kernel_rfl) (loops_mem loops_q15_0 (trivial)) S_q15_0_ok fun _ _ h => h
theorem loops_q15 : loopsIn code_q15 = [body_q15_0] := by kernel_rfl
theorem m_q15 : Meets Tryz.prog 191 c_q15 := meets_of (E := E_q15) (code := code_q15) mix layD_ok cons_q15 Tryz.func191 (by kernel_rfl) sg_q15 (by kernel_rfl) (fun y => y.1) c_q15.out (fun _ => rfl) c_q15.run (fun x => by kernel_rfl) (by kernel_rfl) (loops_mem loops_q15 (⟨⟨_, by kernel_rfl, l_q15_0⟩, trivial⟩))
noncomputable def sg_q16 : Sig := ⟨[(false, [.d (.sl .int)])], [], true, [(false, [.d (.int .i64)]), (false, [.d (.bool)])], []⟩
noncomputable def c_q16 : Con := ⟨sg_q16, Int × Bool, fun x => M_spec_NatToInt x.1, fun r => (r.1, r.2, ())⟩
noncomputable def code_q16 : Code := Tryz.f195.body.getD .skip
noncomputable def body_q16_0 : Code := (loopsIn code_q16).getD 0 .skip
noncomputable def D_q16_0 : LoopD := ⟨⟨mkSlots [(0, false, [.d (.sl .int)]), (4, false, [.d (.int .i64)]), (5, false, [.d (.int .i64)])] 30 0, []⟩, [], [(.exit 0, ⟨mkSlots [(4, false, [.d (.int .i64)])] 30 0, []⟩, [])]⟩
noncomputable def S_q16_0_w (x : Tys D_q16_0.head.ks) : Option (OutT D_q16_0.outs) := @whileO ((List Int) × Int × Int × Unit) (Int × Unit) S_spec_NatToInt_0 x
noncomputable def E_q16 : Env := ⟨layD, [(178, c_q12), (191, c_q15)], [(5, mkLM D_q16_0 S_q16_0_w)], []⟩
theorem cons_q16 : ConsOk Tryz.prog E_q16.cons := consOk_cons m_q12 (callable_of Tryz.func178 (by kernel_rfl)) (consOk_cons m_q15 (callable_of Tryz.func191 (by kernel_rfl)) (consOk_nil))
theorem S_q16_0_ok (x : Tys D_q16_0.head.ks) : stepL E_q16 D_q16_0 body_q16_0 x = S_spec_NatToInt_0 x := by kernel_rfl
theorem loops_q16_0 : loopsIn body_q16_0 = [] := by kernel_rfl
theorem l_q16_0 : LoopOk Tryz.prog (mkLM D_q16_0 S_q16_0_w) body_q16_0 := loop_ok2 mix layD_ok cons_q16 (by kernel_rfl) (loops_mem loops_q16_0 (trivial)) S_q16_0_ok fun _ _ h => h
theorem loops_q16 : loopsIn code_q16 = [body_q16_0] := by kernel_rfl
theorem m_q16 : Meets Tryz.prog 195 c_q16 := meets_of (E := E_q16) (code := code_q16) mix layD_ok cons_q16 Tryz.func195 (by kernel_rfl) sg_q16 (by kernel_rfl) (fun y => (y.1, y.2.1)) c_q16.out (fun _ => rfl) c_q16.run (fun x => by kernel_rfl) (by kernel_rfl) (loops_mem loops_q16 (⟨⟨_, by kernel_rfl, l_q16_0⟩, trivial⟩))
noncomputable def sg_q17 : Sig := ⟨[(false, [.d (.int .i64)]), (false, [.d (.int .i64)])], [], false, [(false, [.own 0])], [(0, .arr false .int)]⟩
noncomputable def c_q17 : Con := ⟨sg_q17, List Int, fun x => M_spec_l02Plain x.1 x.2.1, fun r => (r, ())⟩
noncomputable def code_q17 : Code := Tryz.f196.body.getD .skip
noncomputable def body_q17_0 : Code := (loopsIn code_q17).getD 0 .skip
noncomputable def D_q17_0 : LoopD := ⟨⟨mkSlots [(0, false, [.d (.int .i64)]), (1, false, [.d (.int .i64)])] 15 0, []⟩, [], [(.exit 0, ⟨mkSlots [(0, false, [.d (.int .i64)])] 15 0, []⟩, [])]⟩
noncomputable def S_q17_0_w (x : Tys D_q17_0.head.ks) : Option (OutT D_q17_0.outs) := @whileO (Int × Int × Unit) (Int × Unit) S_spec_l02Plain_0 x
noncomputable def E_q17 : Env := ⟨layD, [(180, c_q9)], [(1, mkLM D_q17_0 S_q17_0_w)], []⟩
theorem cons_q17 : ConsOk Tryz.prog E_q17.cons := consOk_cons m_q9 (callable_of Tryz.func180 (by kernel_rfl)) (consOk_nil)
theorem S_q17_0_ok (x : Tys D_q17_0.head.ks) : stepL E_q17 D_q17_0 body_q17_0 x = S_spec_l02Plain_0 x := by kernel_rfl
theorem loops_q17_0 : loopsIn body_q17_0 = [] := by kernel_rfl
theorem l_q17_0 : LoopOk Tryz.prog (mkLM D_q17_0 S_q17_0_w) body_q17_0 := loop_ok2 mix layD_ok cons_q17 (by kernel_rfl) (loops_mem loops_q17_0 (trivial)) S_q17_0_ok fun _ _ h => h
theorem loops_q17 : loopsIn code_q17 = [body_q17_0] := by kernel_rfl
theorem m_q17 : Meets Tryz.prog 196 c_q17 := meets_of (E := E_q17) (code := code_q17) mix layD_ok cons_q17 Tryz.func196 (by kernel_rfl) sg_q17 (by kernel_rfl) (fun y => y.1) c_q17.out (fun _ => rfl) c_q17.run (fun x => by kernel_rfl) (by kernel_rfl) (loops_mem loops_q17 (⟨⟨_, by kernel_rfl, l_q17_0⟩, trivial⟩))
noncomputable def sg_q18 : Sig := ⟨[(false, [.own 0])], [(0, .arr false .int)], false, [(false, [.own 0])], [(0, .arr false .int)]⟩
noncomputable def c_q18 : Con := ⟨sg_q18, List Int, fun x => M_spec_l02Trim_c x.1, fun r => (r, ())⟩
noncomputable def code_q18 : Code := Tryz.f181.body.getD .skip
noncomputable def body_q18_0 : Code := (loopsIn code_q18).getD 0 .skip
noncomputable def D_q18_0 : LoopD := ⟨⟨mkSlots [(0, false, [.own 1408]), (3, false, [.d (.int .i64)])] 21 0, [(1408, .arr false .int)]⟩, [], [(.exit 0, ⟨mkSlots [(0, false, [.own 1408]), (3, false, [.d (.int .i64)])] 21 0, [(1408, .arr false .int)]⟩, [])]⟩
noncomputable def S_q18_0_w (x : Tys D_q18_0.head.ks) : Option (OutT D_q18_0.outs) := @whileO (Int × (List Int) × Unit) (Int × (List Int) × Unit) S_spec_l02Trim_c_0 x
noncomputable def E_q18 : Env := ⟨layD, [], [(2, mkLM D_q18_0 S_q18_0_w)], []⟩
theorem cons_q18 : ConsOk Tryz.prog E_q18.cons := consOk_nil
theorem S_q18_0_ok (x : Tys D_q18_0.head.ks) : stepL E_q18 D_q18_0 body_q18_0 x = S_spec_l02Trim_c_0 x := by kernel_rfl
theorem loops_q18_0 : loopsIn body_q18_0 = [] := by kernel_rfl
theorem l_q18_0 : LoopOk Tryz.prog (mkLM D_q18_0 S_q18_0_w) body_q18_0 := loop_ok2 mix layD_ok cons_q18 (by kernel_rfl) (loops_mem loops_q18_0 (trivial)) S_q18_0_ok fun _ _ h => h
theorem loops_q18 : loopsIn code_q18 = [body_q18_0] := by kernel_rfl
theorem m_q18 : Meets Tryz.prog 181 c_q18 := meets_of (E := E_q18) (code := code_q18) mix layD_ok cons_q18 Tryz.func181 (by kernel_rfl) sg_q18 (by kernel_rfl) (fun y => y.1) c_q18.out (fun _ => rfl) c_q18.run (fun x => by kernel_rfl) (by kernel_rfl) (loops_mem loops_q18 (⟨⟨_, by kernel_rfl, l_q18_0⟩, trivial⟩))
noncomputable def sg_q19 : Sig := ⟨[(false, [.d (.sl .int)]), (false, [.d (.int .i64)])], [], true, [(false, [.own 0]), (false, [.d (.int .i64)])], [(0, .arr false .int)]⟩
noncomputable def c_q19 : Con := ⟨sg_q19, List Int × Int, fun x => M_spec_l02Small x.1 x.2.1, fun r => (r.2, r.1, ())⟩
noncomputable def code_q19 : Code := Tryz.f197.body.getD .skip
noncomputable def body_q19_0 : Code := (loopsIn code_q19).getD 0 .skip
noncomputable def D_q19_0 : LoopD := ⟨⟨mkSlots [(0, false, [.d (.sl .int)]), (1, false, [.d (.int .i64)]), (6, false, [.own 2560]), (7, false, [.d (.int .i64)]), (8, false, [.d (.int .i64)])] 39 0, [(2560, .arr false .int)]⟩, [], [(.exit 0, ⟨mkSlots [(6, false, [.own 2560]), (7, false, [.d (.int .i64)])] 39 0, [(2560, .arr false .int)]⟩, [])]⟩
noncomputable def S_q19_0_w (x : Tys D_q19_0.head.ks) : Option (OutT D_q19_0.outs) := @whileO ((List Int) × Int × Int × Int × (List Int) × Unit) (Int × (List Int) × Unit) S_spec_l02Small_0 x
noncomputable def E_q19 : Env := ⟨layD, [(181, c_q18)], [(4, mkLM D_q19_0 S_q19_0_w)], []⟩
theorem cons_q19 : ConsOk Tryz.prog E_q19.cons := consOk_cons m_q18 (callable_of Tryz.func181 (by kernel_rfl)) (consOk_nil)
theorem S_q19_0_ok (x : Tys D_q19_0.head.ks) : stepL E_q19 D_q19_0 body_q19_0 x = S_spec_l02Small_0 x := by kernel_rfl
theorem loops_q19_0 : loopsIn body_q19_0 = [] := by kernel_rfl
theorem l_q19_0 : LoopOk Tryz.prog (mkLM D_q19_0 S_q19_0_w) body_q19_0 := loop_ok2 mix layD_ok cons_q19 (by kernel_rfl) (loops_mem loops_q19_0 (trivial)) S_q19_0_ok fun _ _ h => h
theorem loops_q19 : loopsIn code_q19 = [body_q19_0] := by kernel_rfl
theorem m_q19 : Meets Tryz.prog 197 c_q19 := meets_of (E := E_q19) (code := code_q19) mix layD_ok cons_q19 Tryz.func197 (by kernel_rfl) sg_q19 (by kernel_rfl) (fun y => (y.2.1, y.1)) c_q19.out (fun _ => rfl) c_q19.run (fun x => by kernel_rfl) (by kernel_rfl) (loops_mem loops_q19 (⟨⟨_, by kernel_rfl, l_q19_0⟩, trivial⟩))
noncomputable def sg_q20 : Sig := ⟨[(false, [.d (.sl .int)]), (false, [.d (.sl .int)])], [], false, [(false, [.own 0])], [(0, .arr false .int)]⟩
noncomputable def c_q20 : Con := ⟨sg_q20, List Int, fun x => M_spec_l02Mul x.1 x.2.1, fun r => (r, ())⟩
noncomputable def code_q20 : Code := Tryz.f154.body.getD .skip
noncomputable def body_q20_0 : Code := (loopsIn code_q20).getD 0 .skip
noncomputable def body_q20_1 : Code := (loopsIn body_q20_0).getD 0 .skip
noncomputable def D_q20_0 : LoopD := ⟨⟨mkSlots [(1, false, [.d (.sl .int)]), (5, false, [.own 4672]), (26, false, [.d (.sl .int)]), (27, false, [.d (.int .i64)]), (28, false, [.d (.int .i64)])] 72 0, [(4672, .arr false .int)]⟩, [], [(.exit 0, ⟨mkSlots [(5, false, [.own 4672])] 72 0, [(4672, .arr false .int)]⟩, [])]⟩
noncomputable def D_q20_1 : LoopD := ⟨⟨mkSlots [(1, false, [.d (.sl .int)]), (5, false, [.own 4672]), (6, false, [.d (.int .i64)]), (7, false, [.d (.int .i64)]), (8, false, [.d (.int .i64)]), (26, false, [.d (.sl .int)]), (27, false, [.d (.int .i64)]), (28, false, [.d (.int .i64)]), (33, false, [.d (.sl .int)]), (34, false, [.d (.int .i64)]), (35, false, [.d (.int .i64)])] 72 0, [(4672, .arr false .int)]⟩, [], [(.exit 2, ⟨mkSlots [(1, false, [.d (.sl .int)]), (5, false, [.own 4672]), (6, false, [.d (.int .i64)]), (8, false, [.d (.int .i64)]), (26, false, [.d (.sl .int)]), (27, false, [.d (.int .i64)]), (28, false, [.d (.int .i64)])] 72 0, [(4672, .arr false .int)]⟩, [])]⟩
noncomputable def S_q20_0_w (x : Tys D_q20_0.head.ks) : Option (OutT D_q20_0.outs) := @whileO ((List Int) × (List Int) × Int × Int × (List Int) × Unit) ((List Int) × Unit) S_spec_l02Mul_0 x
noncomputable def S_q20_1_w (x : Tys D_q20_1.head.ks) : Option (OutT D_q20_1.outs) := @whileO ((List Int) × Int × Int × Int × (List Int) × Int × Int × (List Int) × Int × Int × (List Int) × Unit) ((List Int) × Int × Int × (List Int) × Int × Int × (List Int) × Unit) S_spec_l02Mul_1 x
noncomputable def E_q20 : Env := ⟨layD, [(181, c_q18)], [(5, mkLM D_q20_0 S_q20_0_w), (9, mkLM D_q20_1 S_q20_1_w)], []⟩
theorem cons_q20 : ConsOk Tryz.prog E_q20.cons := consOk_cons m_q18 (callable_of Tryz.func181 (by kernel_rfl)) (consOk_nil)
theorem S_q20_1_ok (x : Tys D_q20_1.head.ks) : stepL E_q20 D_q20_1 body_q20_1 x = S_spec_l02Mul_1 x := by kernel_rfl
theorem loops_q20_1 : loopsIn body_q20_1 = [] := by kernel_rfl
theorem l_q20_1 : LoopOk Tryz.prog (mkLM D_q20_1 S_q20_1_w) body_q20_1 := loop_ok2 mix layD_ok cons_q20 (by kernel_rfl) (loops_mem loops_q20_1 (trivial)) S_q20_1_ok fun _ _ h => h
theorem S_q20_0_ok (x : Tys D_q20_0.head.ks) : stepL E_q20 D_q20_0 body_q20_0 x = S_spec_l02Mul_0 x := by kernel_rfl
theorem loops_q20_0 : loopsIn body_q20_0 = [body_q20_1] := by kernel_rfl
theorem l_q20_0 : LoopOk Tryz.prog (mkLM D_q20_0 S_q20_0_w) body_q20_0 := loop_ok2 mix layD_ok cons_q20 (by kernel_rfl) (loops_mem loops_q20_0 (⟨⟨_, by kernel_rfl, l_q20_1⟩, trivial⟩)) S_q20_0_ok fun _ _ h => h
theorem loops_q20 : loopsIn code_q20 = [body_q20_0] := by kernel_rfl
theorem m_q20 : Meets Tryz.prog 154 c_q20 := meets_of (E := E_q20) (code := code_q20) mix layD_ok cons_q20 Tryz.func154 (by kernel_rfl) sg_q20 (by kernel_rfl) (fun y => y.1) c_q20.out (fun _ => rfl) c_q20.run (fun x => by kernel_rfl) (by kernel_rfl) (loops_mem loops_q20 (⟨⟨_, by kernel_rfl, l_q20_0⟩, trivial⟩))
noncomputable def sg_q21 : Sig := ⟨[(false, [.d (.sl .int)]), (false, [.d (.sl .int)])], [], false, [(false, [.d (.int .i64)])], []⟩
noncomputable def c_q21 : Con := ⟨sg_q21, Int, fun x => M_spec_l02Digit x.1 x.2.1, fun r => (r, ())⟩
noncomputable def code_q21 : Code := Tryz.f198.body.getD .skip
noncomputable def body_q21_0 : Code := (loopsIn code_q21).getD 0 .skip
noncomputable def D_q21_0 : LoopD := ⟨⟨mkSlots [(0, false, [.d (.sl .int)]), (1, false, [.d (.sl .int)]), (5, false, [.d (.int .i64)]), (6, false, [.d (.int .i64)])] 27 0, []⟩, [], [(.exit 0, ⟨mkSlots [(5, false, [.d (.int .i64)])] 27 0, []⟩, [])]⟩
noncomputable def S_q21_0_w (x : Tys D_q21_0.head.ks) : Option (OutT D_q21_0.outs) := @whileO ((List Int) × (List Int) × Int × Int × Unit) (Int × Unit) S_spec_l02Digit_0 x
noncomputable def E_q21 : Env := ⟨layD, [(180, c_q9), (154, c_q20), (191, c_q15)], [(3, mkLM D_q21_0 S_q21_0_w)], []⟩
theorem cons_q21 : ConsOk Tryz.prog E_q21.cons := consOk_cons m_q9 (callable_of Tryz.func180 (by kernel_rfl)) (consOk_cons m_q20 (callable_of Tryz.func154 (by kernel_rfl)) (consOk_cons m_q15 (callable_of Tryz.func191 (by kernel_rfl)) (consOk_nil)))
theorem S_q21_0_ok (x : Tys D_q21_0.head.ks) : stepL E_q21 D_q21_0 body_q21_0 x = S_spec_l02Digit_0 x := by kernel_rfl
theorem loops_q21_0 : loopsIn body_q21_0 = [] := by kernel_rfl
theorem l_q21_0 : LoopOk Tryz.prog (mkLM D_q21_0 S_q21_0_w) body_q21_0 := loop_ok2 mix layD_ok cons_q21 (by kernel_rfl) (loops_mem loops_q21_0 (trivial)) S_q21_0_ok fun _ _ h => h
theorem loops_q21 : loopsIn code_q21 = [body_q21_0] := by kernel_rfl
theorem m_q21 : Meets Tryz.prog 198 c_q21 := meets_of (E := E_q21) (code := code_q21) mix layD_ok cons_q21 Tryz.func198 (by kernel_rfl) sg_q21 (by kernel_rfl) (fun y => y.1) c_q21.out (fun _ => rfl) c_q21.run (fun x => by kernel_rfl) (by kernel_rfl) (loops_mem loops_q21 (⟨⟨_, by kernel_rfl, l_q21_0⟩, trivial⟩))
noncomputable def sg_q22 : Sig := ⟨[(false, [.d (.sl .int)]), (false, [.d (.sl .int)])], [], false, [(false, [.own 0])], [(0, .arr false .int)]⟩
noncomputable def c_q22 : Con := ⟨sg_q22, List Int, fun x => M_spec_l02Sub x.1 x.2.1, fun r => (r, ())⟩
noncomputable def code_q22 : Code := Tryz.f192.body.getD .skip
noncomputable def body_q22_0 : Code := (loopsIn code_q22).getD 0 .skip
noncomputable def D_q22_0 : LoopD := ⟨⟨mkSlots [(0, false, [.d (.sl .int)]), (1, false, [.d (.sl .int)]), (5, false, [.own 2752]), (6, false, [.d (.int .i64)]), (11, false, [.d (.int .i64)]), (12, false, [.d (.int .i64)])] 42 0, [(2752, .arr false .int)]⟩, [(.slot 5 0, 2752, .int)], [(.exit 0, ⟨mkSlots [(5, false, [.own 2752])] 42 0, [(2752, .arr false .int)]⟩, [(.slot 5 0, 2752, .int)])]⟩
noncomputable def S_q22_0_w (x : Tys D_q22_0.head.ks) : Option (OutT D_q22_0.outs) := @whileO ((List Int) × (List Int) × Int × Int × Int × (List Int) × Unit) ((List Int) × Unit) S_spec_l02Sub_0 x
noncomputable def E_q22 : Env := ⟨layD, [(181, c_q18)], [(4, mkLM D_q22_0 S_q22_0_w)], []⟩
theorem cons_q22 : ConsOk Tryz.prog E_q22.cons := consOk_cons m_q18 (callable_of Tryz.func181 (by kernel_rfl)) (consOk_nil)
theorem S_q22_0_ok (x : Tys D_q22_0.head.ks) : stepL E_q22 D_q22_0 body_q22_0 x = S_spec_l02Sub_0 x := by kernel_rfl
theorem loops_q22_0 : loopsIn body_q22_0 = [] := by kernel_rfl
theorem l_q22_0 : LoopOk Tryz.prog (mkLM D_q22_0 S_q22_0_w) body_q22_0 := loop_ok2 mix layD_ok cons_q22 (by kernel_rfl) (loops_mem loops_q22_0 (trivial)) S_q22_0_ok fun _ _ h => h
theorem loops_q22 : loopsIn code_q22 = [body_q22_0] := by kernel_rfl
theorem m_q22 : Meets Tryz.prog 192 c_q22 := meets_of (E := E_q22) (code := code_q22) mix layD_ok cons_q22 Tryz.func192 (by kernel_rfl) sg_q22 (by kernel_rfl) (fun y => y.1) c_q22.out (fun _ => rfl) c_q22.run (fun x => by kernel_rfl) (by kernel_rfl) (loops_mem loops_q22 (⟨⟨_, by kernel_rfl, l_q22_0⟩, trivial⟩))
noncomputable def sg_q23 : Sig := ⟨[(false, [.d (.sl .int)]), (false, [.d (.sl .int)])], [], true, [(false, [.own 0]), (false, [.own 1])], [(0, .arr false .int), (1, .arr false .int)]⟩
noncomputable def c_q23 : Con := ⟨sg_q23, List Int × List Int, fun x => M_spec_l02Div x.1 x.2.1, fun r => (r.1, r.2, ())⟩
noncomputable def code_q23 : Code := Tryz.f182.body.getD .skip
noncomputable def body_q23_0 : Code := (loopsIn code_q23).getD 0 .skip
noncomputable def D_q23_0 : LoopD := ⟨⟨mkSlots [(0, false, [.d (.sl .int)]), (1, false, [.d (.sl .int)]), (8, false, [.own 4224]), (9, false, [.own 4288]), (10, false, [.d (.int .i64)])] 65 0, [(4224, .arr false .int), (4288, .arr false .int)]⟩, [(.slot 9 0, 4288, .int)], [(.exit 0, ⟨mkSlots [(8, false, [.own 4224]), (9, false, [.own 4288])] 65 0, [(4224, .arr false .int), (4288, .arr false .int)]⟩, [(.slot 9 0, 4288, .int)])]⟩
noncomputable def S_q23_0_w (x : Tys D_q23_0.head.ks) : Option (OutT D_q23_0.outs) := @whileO ((List Int) × (List Int) × Int × (List Int) × (List Int) × Unit) ((List Int) × (List Int) × Unit) S_spec_l02Div_0 x
noncomputable def E_q23 : Env := ⟨layD, [(197, c_q19), (180, c_q9), (181, c_q18), (191, c_q15), (198, c_q21), (154, c_q20), (192, c_q22)], [(7, mkLM D_q23_0 S_q23_0_w)], []⟩
theorem cons_q23 : ConsOk Tryz.prog E_q23.cons := consOk_cons m_q19 (callable_of Tryz.func197 (by kernel_rfl)) (consOk_cons m_q9 (callable_of Tryz.func180 (by kernel_rfl)) (consOk_cons m_q18 (callable_of Tryz.func181 (by kernel_rfl)) (consOk_cons m_q15 (callable_of Tryz.func191 (by kernel_rfl)) (consOk_cons m_q21 (callable_of Tryz.func198 (by kernel_rfl)) (consOk_cons m_q20 (callable_of Tryz.func154 (by kernel_rfl)) (consOk_cons m_q22 (callable_of Tryz.func192 (by kernel_rfl)) (consOk_nil)))))))
theorem S_q23_0_ok (x : Tys D_q23_0.head.ks) : stepL E_q23 D_q23_0 body_q23_0 x = S_spec_l02Div_0 x := by kernel_rfl
theorem loops_q23_0 : loopsIn body_q23_0 = [] := by kernel_rfl
theorem l_q23_0 : LoopOk Tryz.prog (mkLM D_q23_0 S_q23_0_w) body_q23_0 := loop_ok2 mix layD_ok cons_q23 (by kernel_rfl) (loops_mem loops_q23_0 (trivial)) S_q23_0_ok fun _ _ h => h
theorem loops_q23 : loopsIn code_q23 = [body_q23_0] := by kernel_rfl
theorem m_q23 : Meets Tryz.prog 182 c_q23 := meets_of (E := E_q23) (code := code_q23) mix layD_ok cons_q23 Tryz.func182 (by kernel_rfl) sg_q23 (by kernel_rfl) (fun y => (y.1, y.2.1)) c_q23.out (fun _ => rfl) c_q23.run (fun x => by kernel_rfl) (by kernel_rfl) (loops_mem loops_q23 (⟨⟨_, by kernel_rfl, l_q23_0⟩, trivial⟩))
noncomputable def sg_q24 : Sig := ⟨[(false, [.d (.sl .int)]), (false, [.d (.sl .int)])], [], false, [(false, [.own 0])], [(0, .arr false .int)]⟩
noncomputable def c_q24 : Con := ⟨sg_q24, List Int, fun x => M_spec_l02Gcd x.1 x.2.1, fun r => (r, ())⟩
noncomputable def code_q24 : Code := Tryz.f179.body.getD .skip
noncomputable def body_q24_0 : Code := (loopsIn code_q24).getD 0 .skip
noncomputable def D_q24_0 : LoopD := ⟨⟨mkSlots [(5, false, [.own 3392]), (6, false, [.own 3456])] 52 0, [(3392, .arr false .int), (3456, .arr false .int)]⟩, [], [(.ret, ⟨mkSlots [(4, false, [.own 3520])] 52 0, [(3520, .arr false .int)]⟩, []), (.exit 0, ⟨mkSlots [(5, false, [.own 3392])] 52 0, [(3392, .arr false .int)]⟩, [])]⟩
noncomputable def S_q24_0_w (x : Tys D_q24_0.head.ks) : Option (OutT D_q24_0.outs) := @whileO ((List Int) × (List Int) × Unit) (((List Int) × Unit) ⊕ ((List Int) × Unit)) S_spec_l02Gcd_0 x
noncomputable def E_q24 : Env := ⟨layD, [(195, c_q16), (196, c_q17), (182, c_q23)], [(3, mkLM D_q24_0 S_q24_0_w)], []⟩
theorem cons_q24 : ConsOk Tryz.prog E_q24.cons := consOk_cons m_q16 (callable_of Tryz.func195 (by kernel_rfl)) (consOk_cons m_q17 (callable_of Tryz.func196 (by kernel_rfl)) (consOk_cons m_q23 (callable_of Tryz.func182 (by kernel_rfl)) (consOk_nil)))
theorem S_q24_0_ok (x : Tys D_q24_0.head.ks) : stepL E_q24 D_q24_0 body_q24_0 x = S_spec_l02Gcd_0 x := by kernel_rfl
theorem loops_q24_0 : loopsIn body_q24_0 = [] := by kernel_rfl
theorem l_q24_0 : LoopOk Tryz.prog (mkLM D_q24_0 S_q24_0_w) body_q24_0 := loop_ok2 mix layD_ok cons_q24 (by kernel_rfl) (loops_mem loops_q24_0 (trivial)) S_q24_0_ok fun _ _ h => h
theorem loops_q24 : loopsIn code_q24 = [body_q24_0] := by kernel_rfl
theorem m_q24 : Meets Tryz.prog 179 c_q24 := meets_of (E := E_q24) (code := code_q24) mix layD_ok cons_q24 Tryz.func179 (by kernel_rfl) sg_q24 (by kernel_rfl) (fun y => y.1) c_q24.out (fun _ => rfl) c_q24.run (fun x => by kernel_rfl) (by kernel_rfl) (loops_mem loops_q24 (⟨⟨_, by kernel_rfl, l_q24_0⟩, trivial⟩))
noncomputable def sg_q25 : Sig := ⟨[(false, [.d (.bool)]), (false, [.d (.sl .int)]), (false, [.d (.sl .int)])], [], false, [(true, [.d (.bool), .own 0, .own 1])], [(0, .arr false .int), (1, .arr false .int)]⟩
noncomputable def c_q25 : Con := ⟨sg_q25, Rt, fun x => M_spec_l04Low x.1 x.2.1 x.2.2.1, fun r => (r.neg, r.mag, r.den, ())⟩
noncomputable def code_q25 : Code := Tryz.f153.body.getD .skip
noncomputable def E_q25 : Env := ⟨layD, [(181, c_q6), (173, c_q14), (179, c_q24), (182, c_q23), (165, c_q8)], [], []⟩
theorem cons_q25 : ConsOk Tryz.prog E_q25.cons := consOk_cons m_q6 (callable_of Tryz.func181 (by kernel_rfl)) (consOk_cons m_q14 (callable_of Tryz.func173 (by kernel_rfl)) (consOk_cons m_q24 (callable_of Tryz.func179 (by kernel_rfl)) (consOk_cons m_q23 (callable_of Tryz.func182 (by kernel_rfl)) (consOk_cons m_q8 (callable_of Tryz.func165 (by kernel_rfl)) (consOk_nil)))))
theorem loops_q25 : loopsIn code_q25 = [] := by kernel_rfl
theorem m_q25 : Meets Tryz.prog 153 c_q25 := meets_of (E := E_q25) (code := code_q25) mix layD_ok cons_q25 Tryz.func153 (by kernel_rfl) sg_q25 (by kernel_rfl) (fun y => (⟨y.1, y.2.1, y.2.2.1⟩ : Rt)) c_q25.out (fun _ => rfl) c_q25.run (fun x => by kernel_rfl) (by kernel_rfl) (loops_mem loops_q25 (trivial))
noncomputable def sg_q26 : Sig := ⟨[(true, [.d (.bool), .d (.sl .int)]), (true, [.d (.bool), .d (.sl .int)])], [], false, [(true, [.d (.bool), .own 0, .own 1])], [(0, .arr false .int), (1, .arr false .int)]⟩
noncomputable def c_q26 : Con := ⟨sg_q26, Rt, fun x => M_spec_RatMake (⟨x.1, x.2.1⟩ : Bg) (⟨x.2.2.1, x.2.2.2.1⟩ : Bg), fun r => (r.neg, r.mag, r.den, ())⟩
noncomputable def code_q26 : Code := Tryz.f175.body.getD .skip
noncomputable def E_q26 : Env := ⟨layD, [(177, c_q13), (153, c_q25)], [], []⟩
theorem cons_q26 : ConsOk Tryz.prog E_q26.cons := consOk_cons m_q13 (callable_of Tryz.func177 (by kernel_rfl)) (consOk_cons m_q25 (callable_of Tryz.func153 (by kernel_rfl)) (consOk_nil))
theorem loops_q26 : loopsIn code_q26 = [] := by kernel_rfl
theorem m_q26 : Meets Tryz.prog 175 c_q26 := meets_of (E := E_q26) (code := code_q26) mix layD_ok cons_q26 Tryz.func175 (by kernel_rfl) sg_q26 (by kernel_rfl) (fun y => (⟨y.1, y.2.1, y.2.2.1⟩ : Rt)) c_q26.out (fun _ => rfl) c_q26.run (fun x => by kernel_rfl) (by kernel_rfl) (loops_mem loops_q26 (trivial))
noncomputable def sg_q27 : Sig := ⟨[(false, [.d (.int .i64)]), (false, [.d (.int .i64)])], [], false, [(true, [.d (.bool), .own 0, .own 1])], [(0, .arr false .int), (1, .arr false .int)]⟩
noncomputable def c_q27 : Con := ⟨sg_q27, Rt, fun x => M_spec_RatOf x.1 x.2.1, fun r => (r.neg, r.mag, r.den, ())⟩
noncomputable def code_q27 : Code := Tryz.f139.body.getD .skip
noncomputable def E_q27 : Env := ⟨layD, [(152, c_q10), (175, c_q26)], [], []⟩
theorem cons_q27 : ConsOk Tryz.prog E_q27.cons := consOk_cons m_q10 (callable_of Tryz.func152 (by kernel_rfl)) (consOk_cons m_q26 (callable_of Tryz.func175 (by kernel_rfl)) (consOk_nil))
theorem loops_q27 : loopsIn code_q27 = [] := by kernel_rfl
theorem m_q27 : Meets Tryz.prog 139 c_q27 := meets_of (E := E_q27) (code := code_q27) mix layD_ok cons_q27 Tryz.func139 (by kernel_rfl) sg_q27 (by kernel_rfl) (fun y => (⟨y.1, y.2.1, y.2.2.1⟩ : Rt)) c_q27.out (fun _ => rfl) c_q27.run (fun x => by kernel_rfl) (by kernel_rfl) (loops_mem loops_q27 (trivial))
noncomputable def sg_q28 : Sig := ⟨[(false, [.d (.int .i64)])], [], false, [(true, [.d (.bool), .own 0, .own 1])], [(0, .arr false .int), (1, .arr false .int)]⟩
noncomputable def c_q28 : Con := ⟨sg_q28, Rt, fun x => M_spec_RatFromInt x.1, fun r => (r.neg, r.mag, r.den, ())⟩
noncomputable def code_q28 : Code := Tryz.f97.body.getD .skip
noncomputable def E_q28 : Env := ⟨layD, [(152, c_q10)], [], []⟩
theorem cons_q28 : ConsOk Tryz.prog E_q28.cons := consOk_cons m_q10 (callable_of Tryz.func152 (by kernel_rfl)) (consOk_nil)
theorem loops_q28 : loopsIn code_q28 = [] := by kernel_rfl
theorem m_q28 : Meets Tryz.prog 97 c_q28 := meets_of (E := E_q28) (code := code_q28) mix layD_ok cons_q28 Tryz.func97 (by kernel_rfl) sg_q28 (by kernel_rfl) (fun y => (⟨y.1, y.2.1, y.2.2.1⟩ : Rt)) c_q28.out (fun _ => rfl) c_q28.run (fun x => by kernel_rfl) (by kernel_rfl) (loops_mem loops_q28 (trivial))
noncomputable def sg_q29 : Sig := ⟨[(false, [.lp 63 0])], [(63, .box [.d (.sl .byte), .d (.int .i64), .d (.int .i64)])], false, [(true, [.d (.bool), .own 0, .own 1])], [(0, .arr false .int), (1, .arr false .int), (63, .box [.d (.sl .byte), .d (.int .i64), .d (.int .i64)])]⟩
noncomputable def c_q29 : Con := ⟨sg_q29, Rt × Cur, fun x => M_spec_l05Number (⟨x.1, x.2.1, x.2.2.1⟩ : Cur), fun r => (r.1.neg, r.1.mag, r.1.den, r.2.b, r.2.i, r.2.h, ())⟩
noncomputable def code_q29 : Code := Tryz.f117.body.getD .skip
noncomputable def E_q29 : Env := ⟨layD, [(167, c_q5), (140, c_q4), (139, c_q27), (97, c_q28)], [], []⟩
theorem cons_q29 : ConsOk Tryz.prog E_q29.cons := consOk_cons m_q5 (callable_of Tryz.func167 (by kernel_rfl)) (consOk_cons m_q4 (callable_of Tryz.func140 (by kernel_rfl)) (consOk_cons m_q27 (callable_of Tryz.func139 (by kernel_rfl)) (consOk_cons m_q28 (callable_of Tryz.func97 (by kernel_rfl)) (consOk_nil))))
theorem loops_q29 : loopsIn code_q29 = [] := by kernel_rfl
theorem m_q29 : Meets Tryz.prog 117 c_q29 := meets_of (E := E_q29) (code := code_q29) mix layD_ok cons_q29 Tryz.func117 (by kernel_rfl) sg_q29 (by kernel_rfl) (fun y => ((⟨y.1, y.2.1, y.2.2.1⟩ : Rt), (⟨y.2.2.2.1, y.2.2.2.2.1, y.2.2.2.2.2.1⟩ : Cur))) c_q29.out (fun _ => rfl) c_q29.run (fun x => by kernel_rfl) (by kernel_rfl) (loops_mem loops_q29 (trivial))
noncomputable def sg_q30 : Sig := ⟨[(false, [.lp 63 0]), (false, [.d (.int .i64)])], [(63, .box [.d (.sl .byte), .d (.int .i64), .d (.int .i64)])], false, [(false, [.dp 0])], [(0, .deep .rat), (63, .box [.d (.sl .byte), .d (.int .i64), .d (.int .i64)])]⟩
noncomputable def c_q30 : Con := ⟨sg_q30, List Rt × Cur, fun x => M_spec_l05Draw (⟨x.2.1, x.2.2.1, x.2.2.2.1⟩ : Cur) x.1, fun r => (r.1, r.2.b, r.2.i, r.2.h, ())⟩
noncomputable def code_q30 : Code := Tryz.f63.body.getD .skip
noncomputable def body_q30_0 : Code := (loopsIn code_q30).getD 0 .skip
noncomputable def D_q30_0 : LoopD := ⟨⟨mkSlots [(0, false, [.lp 63 0]), (1, false, [.d (.int .i64)]), (5, false, [.dp 1152])] 17 0, [(63, .box [.d (.sl .byte), .d (.int .i64), .d (.int .i64)]), (1152, .deep .rat)]⟩, [(.slotD 5 0, 1152, .rat)], [(.exit 0, ⟨mkSlots [(5, false, [.dp 1152])] 17 0, [(63, .box [.d (.sl .byte), .d (.int .i64), .d (.int .i64)]), (1152, .deep .rat)]⟩, [(.slotD 5 0, 1152, .rat)])]⟩
noncomputable def S_q30_0_w (x : Tys D_q30_0.head.ks) : Option (OutT D_q30_0.outs) := @whileO (Int × (List Int) × Int × Int × (List Rt) × Unit) ((List Int) × Int × Int × (List Rt) × Unit) S_spec_l05Draw_0 x
noncomputable def E_q30 : Env := ⟨layD, [(117, c_q29)], [(2, mkLM D_q30_0 S_q30_0_w)], []⟩
theorem cons_q30 : ConsOk Tryz.prog E_q30.cons := consOk_cons m_q29 (callable_of Tryz.func117 (by kernel_rfl)) (consOk_nil)
theorem S_q30_0_ok (x : Tys D_q30_0.head.ks) : stepL E_q30 D_q30_0 body_q30_0 x = S_spec_l05Draw_0 x := by kernel_rfl
theorem loops_q30_0 : loopsIn body_q30_0 = [] := by kernel_rfl
theorem l_q30_0 : LoopOk Tryz.prog (mkLM D_q30_0 S_q30_0_w) body_q30_0 := loop_ok2 mix layD_ok cons_q30 (by kernel_rfl) (loops_mem loops_q30_0 (trivial)) S_q30_0_ok fun _ _ h => h
theorem loops_q30 : loopsIn code_q30 = [body_q30_0] := by kernel_rfl
theorem m_q30 : Meets Tryz.prog 63 c_q30 := meets_of (E := E_q30) (code := code_q30) mix layD_ok cons_q30 Tryz.func63 (by kernel_rfl) sg_q30 (by kernel_rfl) (fun y => (y.1, (⟨y.2.1, y.2.2.1, y.2.2.2.1⟩ : Cur))) c_q30.out (fun _ => rfl) c_q30.run (fun x => by kernel_rfl) (by kernel_rfl) (loops_mem loops_q30 (⟨⟨_, by kernel_rfl, l_q30_0⟩, trivial⟩))
noncomputable def sg_q31 : Sig := ⟨[(false, [.lp 63 0]), (false, [.d (.int .i64)]), (false, [.d (.int .i64)])], [(63, .box [.d (.sl .byte), .d (.int .i64), .d (.int .i64)])], false, [(true, [.d (.int .i64), .d (.int .i64), .dp 0])], [(0, .deep .rat), (63, .box [.d (.sl .byte), .d (.int .i64), .d (.int .i64)])]⟩
noncomputable def c_q31 : Con := ⟨sg_q31, Mx × Cur, fun x => M_spec_l06Draw (⟨x.2.2.1, x.2.2.2.1, x.2.2.2.2.1⟩ : Cur) x.1 x.2.1, fun r => (r.1.rows, r.1.cols, r.1.cells, r.2.b, r.2.i, r.2.h, ())⟩
noncomputable def code_q31 : Code := Tryz.f61.body.getD .skip
noncomputable def E_q31 : Env := ⟨layD, [(63, c_q30)], [], []⟩
theorem cons_q31 : ConsOk Tryz.prog E_q31.cons := consOk_cons m_q30 (callable_of Tryz.func63 (by kernel_rfl)) (consOk_nil)
theorem loops_q31 : loopsIn code_q31 = [] := by kernel_rfl
theorem m_q31 : Meets Tryz.prog 61 c_q31 := meets_of (E := E_q31) (code := code_q31) mix layD_ok cons_q31 Tryz.func61 (by kernel_rfl) sg_q31 (by kernel_rfl) (fun y => ((⟨y.1, y.2.1, y.2.2.1⟩ : Mx), (⟨y.2.2.2.1, y.2.2.2.2.1, y.2.2.2.2.2.1⟩ : Cur))) c_q31.out (fun _ => rfl) c_q31.run (fun x => by kernel_rfl) (by kernel_rfl) (loops_mem loops_q31 (trivial))
noncomputable def sg_q32 : Sig := ⟨[(false, [.d (.sl .byte)]), (false, [.d (.int .i64)]), (false, [.d (.int .i64)]), (false, [.d (.int .i64)])], [], false, [(true, [.d (.int .i64), .d (.int .i64), .dp 0])], [(0, .deep .rat)]⟩
noncomputable def c_q32 : Con := ⟨sg_q32, Mx, fun x => M_spec_MakeMatrix x.1 x.2.1 x.2.2.1 x.2.2.2.1, fun r => (r.rows, r.cols, r.cells, ())⟩
noncomputable def code_q32 : Code := Tryz.f12.body.getD .skip
noncomputable def E_q32 : Env := ⟨layD, [(62, c_q3), (61, c_q31)], [], []⟩
theorem cons_q32 : ConsOk Tryz.prog E_q32.cons := consOk_cons m_q3 (callable_of Tryz.func62 (by kernel_rfl)) (consOk_cons m_q31 (callable_of Tryz.func61 (by kernel_rfl)) (consOk_nil))
theorem loops_q32 : loopsIn code_q32 = [] := by kernel_rfl
theorem m_q32 : Meets Tryz.prog 12 c_q32 := meets_of (E := E_q32) (code := code_q32) mix layD_ok cons_q32 Tryz.func12 (by kernel_rfl) sg_q32 (by kernel_rfl) (fun y => (⟨y.1, y.2.1, y.2.2.1⟩ : Mx)) c_q32.out (fun _ => rfl) c_q32.run (fun x => by kernel_rfl) (by kernel_rfl) (loops_mem loops_q32 (trivial))
noncomputable def sg_q33 : Sig := ⟨[(false, [.d (.sl .byte)]), (false, [.d (.int .i64)]), (false, [.d (.int .i64)])], [], false, [(false, [.dp 0])], [(0, .deep .rat)]⟩
noncomputable def c_q33 : Con := ⟨sg_q33, List Rt, fun x => M_spec_MakeVector x.1 x.2.1 x.2.2.1, fun r => (r, ())⟩
noncomputable def code_q33 : Code := Tryz.f13.body.getD .skip
noncomputable def E_q33 : Env := ⟨layD, [(62, c_q3), (63, c_q30)], [], []⟩
theorem cons_q33 : ConsOk Tryz.prog E_q33.cons := consOk_cons m_q3 (callable_of Tryz.func62 (by kernel_rfl)) (consOk_cons m_q30 (callable_of Tryz.func63 (by kernel_rfl)) (consOk_nil))
theorem loops_q33 : loopsIn code_q33 = [] := by kernel_rfl
theorem m_q33 : Meets Tryz.prog 13 c_q33 := meets_of (E := E_q33) (code := code_q33) mix layD_ok cons_q33 Tryz.func13 (by kernel_rfl) sg_q33 (by kernel_rfl) (fun y => y.1) c_q33.out (fun _ => rfl) c_q33.run (fun x => by kernel_rfl) (by kernel_rfl) (loops_mem loops_q33 (trivial))
noncomputable def sg_q34 : Sig := ⟨[(false, [.d (.int .i64)])], [], false, [(false, [.d (.bool)])], []⟩
noncomputable def c_q34 : Con := ⟨sg_q34, Bool, fun x => M_impl_isLength x.1, fun r => (r, ())⟩
noncomputable def code_q34 : Code := Tryz.f75.body.getD .skip
noncomputable def E_q34 : Env := ⟨layD, [], [], []⟩
theorem cons_q34 : ConsOk Tryz.prog E_q34.cons := consOk_nil
theorem loops_q34 : loopsIn code_q34 = [] := by kernel_rfl
theorem m_q34 : Meets Tryz.prog 75 c_q34 := meets_of (E := E_q34) (code := code_q34) mix layD_ok cons_q34 Tryz.func75 (by kernel_rfl) sg_q34 (by kernel_rfl) (fun y => y.1) c_q34.out (fun _ => rfl) c_q34.run (fun x => by kernel_rfl) (by kernel_rfl) (loops_mem loops_q34 (trivial))
noncomputable def sg_q35 : Sig := ⟨[(false, [.d (.sl .int)])], [], false, [(false, [.d (.bool)])], []⟩
noncomputable def c_q35 : Con := ⟨sg_q35, Bool, fun x => M_impl_NatOk x.1, fun r => (r, ())⟩
noncomputable def code_q35 : Code := Tryz.f130.body.getD .skip
noncomputable def body_q35_0 : Code := (loopsIn code_q35).getD 0 .skip
noncomputable def D_q35_0 : LoopD := ⟨⟨mkSlots [(22, false, [.d (.sl .int)]), (23, false, [.d (.int .i64)]), (24, false, [.d (.int .i64)])] 35 0, []⟩, [], [(.ret, ⟨mkSlots [(2, false, [.d (.bool)])] 35 0, []⟩, []), (.exit 0, ⟨mkSlots [] 35 0, []⟩, [])]⟩
noncomputable def S_q35_0_w (x : Tys D_q35_0.head.ks) : Option (OutT D_q35_0.outs) := @whileO ((List Int) × Int × Int × Unit) ((Bool × Unit) ⊕ (Unit)) S_impl_NatOk_0 x
noncomputable def E_q35 : Env := ⟨layD, [], [(4, mkLM D_q35_0 S_q35_0_w)], []⟩
theorem cons_q35 : ConsOk Tryz.prog E_q35.cons := consOk_nil
theorem S_q35_0_ok (x : Tys D_q35_0.head.ks) : stepL E_q35 D_q35_0 body_q35_0 x = S_impl_NatOk_0 x := by kernel_rfl
theorem loops_q35_0 : loopsIn body_q35_0 = [] := by kernel_rfl
theorem l_q35_0 : LoopOk Tryz.prog (mkLM D_q35_0 S_q35_0_w) body_q35_0 := loop_ok2 mix layD_ok cons_q35 (by kernel_rfl) (loops_mem loops_q35_0 (trivial)) S_q35_0_ok fun _ _ h => h
theorem loops_q35 : loopsIn code_q35 = [body_q35_0] := by kernel_rfl
theorem m_q35 : Meets Tryz.prog 130 c_q35 := meets_of (E := E_q35) (code := code_q35) mix layD_ok cons_q35 Tryz.func130 (by kernel_rfl) sg_q35 (by kernel_rfl) (fun y => y.1) c_q35.out (fun _ => rfl) c_q35.run (fun x => by kernel_rfl) (by kernel_rfl) (loops_mem loops_q35 (⟨⟨_, by kernel_rfl, l_q35_0⟩, trivial⟩))
noncomputable def sg_q36 : Sig := ⟨[(true, [.d (.bool), .d (.sl .int)])], [], false, [(false, [.d (.bool)])], []⟩
noncomputable def c_q36 : Con := ⟨sg_q36, Bool, fun x => M_impl_BigIntOk (⟨x.1, x.2.1⟩ : Bg), fun r => (r, ())⟩
noncomputable def code_q36 : Code := Tryz.f129.body.getD .skip
noncomputable def E_q36 : Env := ⟨layD, [(130, c_q35)], [], []⟩
theorem cons_q36 : ConsOk Tryz.prog E_q36.cons := consOk_cons m_q35 (callable_of Tryz.func130 (by kernel_rfl)) (consOk_nil)
theorem loops_q36 : loopsIn code_q36 = [] := by kernel_rfl
theorem m_q36 : Meets Tryz.prog 129 c_q36 := meets_of (E := E_q36) (code := code_q36) mix layD_ok cons_q36 Tryz.func129 (by kernel_rfl) sg_q36 (by kernel_rfl) (fun y => y.1) c_q36.out (fun _ => rfl) c_q36.run (fun x => by kernel_rfl) (by kernel_rfl) (loops_mem loops_q36 (trivial))
noncomputable def sg_q37 : Sig := ⟨[(false, [.d (.sl .int)]), (false, [.d (.sl .int)])], [], false, [(false, [.d (.int .i64)])], []⟩
noncomputable def c_q37 : Con := ⟨sg_q37, Int, fun x => M_impl_natCmp x.1 x.2.1, fun r => (r, ())⟩
noncomputable def code_q37 : Code := Tryz.f188.body.getD .skip
noncomputable def body_q37_0 : Code := (loopsIn code_q37).getD 0 .skip
noncomputable def D_q37_0 : LoopD := ⟨⟨mkSlots [(0, false, [.d (.sl .int)]), (1, false, [.d (.sl .int)]), (5, false, [.d (.int .i64)])] 43 0, []⟩, [], [(.ret, ⟨mkSlots [(4, false, [.d (.int .i64)])] 43 0, []⟩, []), (.exit 0, ⟨mkSlots [] 43 0, []⟩, [])]⟩
noncomputable def S_q37_0_w (x : Tys D_q37_0.head.ks) : Option (OutT D_q37_0.outs) := @whileO ((List Int) × (List Int) × Int × Unit) ((Int × Unit) ⊕ (Unit)) S_impl_natCmp_0 x
noncomputable def E_q37 : Env := ⟨layD, [], [(6, mkLM D_q37_0 S_q37_0_w)], [(8, [(0, []), (1, []), (2, []), (3, []), (4, []), (5, []), (6, []), (7, []), (8, []), (9, [8, 3, 7, 2, 6, 0, 1, 4, 5])]), (10, [(0, []), (1, []), (2, []), (3, []), (4, []), (5, []), (6, []), (7, []), (8, []), (9, [8, 3, 7, 2, 6, 0, 1, 4, 5])])]⟩
theorem cons_q37 : ConsOk Tryz.prog E_q37.cons := consOk_nil
theorem S_q37_0_ok (x : Tys D_q37_0.head.ks) : stepL E_q37 D_q37_0 body_q37_0 x = S_impl_natCmp_0 x := by kernel_rfl
theorem loops_q37_0 : loopsIn body_q37_0 = [] := by kernel_rfl
theorem l_q37_0 : LoopOk Tryz.prog (mkLM D_q37_0 S_q37_0_w) body_q37_0 := loop_ok2 mix layD_ok cons_q37 (by kernel_rfl) (loops_mem loops_q37_0 (trivial)) S_q37_0_ok fun _ _ h => h
theorem loops_q37 : loopsIn code_q37 = [body_q37_0] := by kernel_rfl
theorem m_q37 : Meets Tryz.prog 188 c_q37 := meets_of (E := E_q37) (code := code_q37) mix layD_ok cons_q37 Tryz.func188 (by kernel_rfl) sg_q37 (by kernel_rfl) (fun y => y.1) c_q37.out (fun _ => rfl) c_q37.run (fun x => by kernel_rfl) (by kernel_rfl) (loops_mem loops_q37 (⟨⟨_, by kernel_rfl, l_q37_0⟩, trivial⟩))
noncomputable def sg_q38 : Sig := ⟨[(false, [.d (.sl .int)])], [], false, [(false, [.own 0])], [(0, .arr false .int)]⟩
noncomputable def c_q38 : Con := ⟨sg_q38, List Int, fun x => M_impl_copyInts x.1, fun r => (r, ())⟩
noncomputable def code_q38 : Code := Tryz.f142.body.getD .skip
noncomputable def E_q38 : Env := ⟨layD, [], [], []⟩
theorem cons_q38 : ConsOk Tryz.prog E_q38.cons := consOk_nil
theorem loops_q38 : loopsIn code_q38 = [] := by kernel_rfl
theorem m_q38 : Meets Tryz.prog 142 c_q38 := meets_of (E := E_q38) (code := code_q38) mix layD_ok cons_q38 Tryz.func142 (by kernel_rfl) sg_q38 (by kernel_rfl) (fun y => y.1) c_q38.out (fun _ => rfl) c_q38.run (fun x => by kernel_rfl) (by kernel_rfl) (loops_mem loops_q38 (trivial))
noncomputable def sg_q39 : Sig := ⟨[(false, [.own 0])], [(0, .arr false .int)], false, [(false, [.own 0])], [(0, .arr false .int)]⟩
noncomputable def c_q39 : Con := ⟨sg_q39, List Int, fun x => M_impl_trim_c x.1, fun r => (r, ())⟩
noncomputable def code_q39 : Code := Tryz.f171.body.getD .skip
noncomputable def body_q39_0 : Code := (loopsIn code_q39).getD 0 .skip
noncomputable def D_q39_0 : LoopD := ⟨⟨mkSlots [(0, false, [.own 1408]), (3, false, [.d (.int .i64)])] 21 0, [(1408, .arr false .int)]⟩, [], [(.exit 0, ⟨mkSlots [(0, false, [.own 1408]), (3, false, [.d (.int .i64)])] 21 0, [(1408, .arr false .int)]⟩, [])]⟩
noncomputable def S_q39_0_w (x : Tys D_q39_0.head.ks) : Option (OutT D_q39_0.outs) := @whileO (Int × (List Int) × Unit) (Int × (List Int) × Unit) S_impl_trim_c_0 x
noncomputable def E_q39 : Env := ⟨layD, [], [(2, mkLM D_q39_0 S_q39_0_w)], []⟩
theorem cons_q39 : ConsOk Tryz.prog E_q39.cons := consOk_nil
theorem S_q39_0_ok (x : Tys D_q39_0.head.ks) : stepL E_q39 D_q39_0 body_q39_0 x = S_impl_trim_c_0 x := by kernel_rfl
theorem loops_q39_0 : loopsIn body_q39_0 = [] := by kernel_rfl
theorem l_q39_0 : LoopOk Tryz.prog (mkLM D_q39_0 S_q39_0_w) body_q39_0 := loop_ok2 mix layD_ok cons_q39 (by kernel_rfl) (loops_mem loops_q39_0 (trivial)) S_q39_0_ok fun _ _ h => h
theorem loops_q39 : loopsIn code_q39 = [body_q39_0] := by kernel_rfl
theorem m_q39 : Meets Tryz.prog 171 c_q39 := meets_of (E := E_q39) (code := code_q39) mix layD_ok cons_q39 Tryz.func171 (by kernel_rfl) sg_q39 (by kernel_rfl) (fun y => y.1) c_q39.out (fun _ => rfl) c_q39.run (fun x => by kernel_rfl) (by kernel_rfl) (loops_mem loops_q39 (⟨⟨_, by kernel_rfl, l_q39_0⟩, trivial⟩))
noncomputable def sg_q40 : Sig := ⟨[(false, [.d (.int .i64)])], [], false, [(false, [.own 0])], [(0, .arr false .int)]⟩
noncomputable def c_q40 : Con := ⟨sg_q40, List Int, fun x => M_impl_NatOf x.1, fun r => (r, ())⟩
noncomputable def code_q40 : Code := Tryz.f200.body.getD .skip
noncomputable def body_q40_0 : Code := (loopsIn code_q40).getD 0 .skip
noncomputable def D_q40_0 : LoopD := ⟨⟨mkSlots [(0, false, [.d (.int .i64)]), (3, false, [.own 960])] 14 0, [(960, .arr false .int)]⟩, [(.slot 3 0, 960, .int)], [(.exit 0, ⟨mkSlots [(3, false, [.own 960])] 14 0, [(960, .arr false .int)]⟩, [(.slot 3 0, 960, .int)])]⟩
noncomputable def S_q40_0_w (x : Tys D_q40_0.head.ks) : Option (OutT D_q40_0.outs) := @whileO (Int × (List Int) × Unit) ((List Int) × Unit) S_impl_NatOf_0 x
noncomputable def E_q40 : Env := ⟨layD, [], [(2, mkLM D_q40_0 S_q40_0_w)], []⟩
theorem cons_q40 : ConsOk Tryz.prog E_q40.cons := consOk_nil
theorem S_q40_0_ok (x : Tys D_q40_0.head.ks) : stepL E_q40 D_q40_0 body_q40_0 x = S_impl_NatOf_0 x := by kernel_rfl
theorem loops_q40_0 : loopsIn body_q40_0 = [] := by kernel_rfl
theorem l_q40_0 : LoopOk Tryz.prog (mkLM D_q40_0 S_q40_0_w) body_q40_0 := loop_ok2 mix layD_ok cons_q40 (by kernel_rfl) (loops_mem loops_q40_0 (trivial)) S_q40_0_ok fun _ _ h => h
theorem loops_q40 : loopsIn code_q40 = [body_q40_0] := by kernel_rfl
theorem m_q40 : Meets Tryz.prog 200 c_q40 := meets_of (E := E_q40) (code := code_q40) mix layD_ok cons_q40 Tryz.func200 (by kernel_rfl) sg_q40 (by kernel_rfl) (fun y => y.1) c_q40.out (fun _ => rfl) c_q40.run (fun x => by kernel_rfl) (by kernel_rfl) (loops_mem loops_q40 (⟨⟨_, by kernel_rfl, l_q40_0⟩, trivial⟩))
noncomputable def sg_q41 : Sig := ⟨[(false, [.d (.sl .int)]), (false, [.d (.int .i64)])], [], true, [(false, [.own 0]), (false, [.own 1])], [(0, .arr false .int), (1, .arr false .int)]⟩
noncomputable def c_q41 : Con := ⟨sg_q41, List Int × List Int, fun x => M_impl_divSmall x.1 x.2.1, fun r => (r.1, r.2, ())⟩
noncomputable def code_q41 : Code := Tryz.f189.body.getD .skip
noncomputable def body_q41_0 : Code := (loopsIn code_q41).getD 0 .skip
noncomputable def D_q41_0 : LoopD := ⟨⟨mkSlots [(0, false, [.d (.sl .int)]), (1, false, [.d (.int .i64)]), (6, false, [.own 2624]), (7, false, [.d (.int .i64)]), (8, false, [.d (.int .i64)])] 40 0, [(2624, .arr false .int)]⟩, [], [(.exit 0, ⟨mkSlots [(6, false, [.own 2624]), (7, false, [.d (.int .i64)])] 40 0, [(2624, .arr false .int)]⟩, [])]⟩
noncomputable def S_q41_0_w (x : Tys D_q41_0.head.ks) : Option (OutT D_q41_0.outs) := @whileO ((List Int) × Int × Int × Int × (List Int) × Unit) (Int × (List Int) × Unit) S_impl_divSmall_0 x
noncomputable def E_q41 : Env := ⟨layD, [(171, c_q39), (200, c_q40)], [(4, mkLM D_q41_0 S_q41_0_w)], []⟩
theorem cons_q41 : ConsOk Tryz.prog E_q41.cons := consOk_cons m_q39 (callable_of Tryz.func171 (by kernel_rfl)) (consOk_cons m_q40 (callable_of Tryz.func200 (by kernel_rfl)) (consOk_nil))
theorem S_q41_0_ok (x : Tys D_q41_0.head.ks) : stepL E_q41 D_q41_0 body_q41_0 x = S_impl_divSmall_0 x := by kernel_rfl
theorem loops_q41_0 : loopsIn body_q41_0 = [] := by kernel_rfl
theorem l_q41_0 : LoopOk Tryz.prog (mkLM D_q41_0 S_q41_0_w) body_q41_0 := loop_ok2 mix layD_ok cons_q41 (by kernel_rfl) (loops_mem loops_q41_0 (trivial)) S_q41_0_ok fun _ _ h => h
theorem loops_q41 : loopsIn code_q41 = [body_q41_0] := by kernel_rfl
theorem m_q41 : Meets Tryz.prog 189 c_q41 := meets_of (E := E_q41) (code := code_q41) mix layD_ok cons_q41 Tryz.func189 (by kernel_rfl) sg_q41 (by kernel_rfl) (fun y => (y.1, y.2.1)) c_q41.out (fun _ => rfl) c_q41.run (fun x => by kernel_rfl) (by kernel_rfl) (loops_mem loops_q41 (⟨⟨_, by kernel_rfl, l_q41_0⟩, trivial⟩))
noncomputable def sg_q42 : Sig := ⟨[(false, [.d (.sl .int)]), (false, [.d (.sl .int)])], [], false, [(false, [.own 0])], [(0, .arr false .int)]⟩
noncomputable def c_q42 : Con := ⟨sg_q42, List Int, fun x => M_impl_natMul x.1 x.2.1, fun r => (r, ())⟩
noncomputable def code_q42 : Code := Tryz.f127.body.getD .skip
noncomputable def body_q42_0 : Code := (loopsIn code_q42).getD 0 .skip
noncomputable def body_q42_1 : Code := (loopsIn body_q42_0).getD 0 .skip
noncomputable def D_q42_0 : LoopD := ⟨⟨mkSlots [(1, false, [.d (.sl .int)]), (5, false, [.own 4352]), (18, false, [.d (.sl .int)]), (19, false, [.d (.int .i64)]), (20, false, [.d (.int .i64)])] 67 0, [(4352, .arr false .int)]⟩, [], [(.exit 0, ⟨mkSlots [(5, false, [.own 4352])] 67 0, [(4352, .arr false .int)]⟩, [])]⟩
noncomputable def D_q42_1 : LoopD := ⟨⟨mkSlots [(1, false, [.d (.sl .int)]), (5, false, [.own 4352]), (6, false, [.d (.int .i64)]), (7, false, [.d (.int .i64)]), (8, false, [.d (.int .i64)]), (18, false, [.d (.sl .int)]), (19, false, [.d (.int .i64)]), (20, false, [.d (.int .i64)]), (25, false, [.d (.sl .int)]), (26, false, [.d (.int .i64)]), (27, false, [.d (.int .i64)])] 67 0, [(4352, .arr false .int)]⟩, [], [(.exit 2, ⟨mkSlots [(1, false, [.d (.sl .int)]), (5, false, [.own 4352]), (6, false, [.d (.int .i64)]), (8, false, [.d (.int .i64)]), (18, false, [.d (.sl .int)]), (19, false, [.d (.int .i64)]), (20, false, [.d (.int .i64)])] 67 0, [(4352, .arr false .int)]⟩, [])]⟩
noncomputable def S_q42_0_w (x : Tys D_q42_0.head.ks) : Option (OutT D_q42_0.outs) := @whileO ((List Int) × (List Int) × Int × Int × (List Int) × Unit) ((List Int) × Unit) S_impl_natMul_0 x
noncomputable def S_q42_1_w (x : Tys D_q42_1.head.ks) : Option (OutT D_q42_1.outs) := @whileO ((List Int) × Int × Int × Int × (List Int) × Int × Int × (List Int) × Int × Int × (List Int) × Unit) ((List Int) × Int × Int × (List Int) × Int × Int × (List Int) × Unit) S_impl_natMul_1 x
noncomputable def E_q42 : Env := ⟨layD, [(171, c_q39)], [(3, mkLM D_q42_0 S_q42_0_w), (7, mkLM D_q42_1 S_q42_1_w)], []⟩
theorem cons_q42 : ConsOk Tryz.prog E_q42.cons := consOk_cons m_q39 (callable_of Tryz.func171 (by kernel_rfl)) (consOk_nil)
theorem S_q42_1_ok (x : Tys D_q42_1.head.ks) : stepL E_q42 D_q42_1 body_q42_1 x = S_impl_natMul_1 x := by kernel_rfl
theorem loops_q42_1 : loopsIn body_q42_1 = [] := by kernel_rfl
theorem l_q42_1 : LoopOk Tryz.prog (mkLM D_q42_1 S_q42_1_w) body_q42_1 := loop_ok2 mix layD_ok cons_q42 (by kernel_rfl) (loops_mem loops_q42_1 (trivial)) S_q42_1_ok fun _ _ h => h
theorem S_q42_0_ok (x : Tys D_q42_0.head.ks) : stepL E_q42 D_q42_0 body_q42_0 x = S_impl_natMul_0 x := by kernel_rfl
theorem loops_q42_0 : loopsIn body_q42_0 = [body_q42_1] := by kernel_rfl
theorem l_q42_0 : LoopOk Tryz.prog (mkLM D_q42_0 S_q42_0_w) body_q42_0 := loop_ok2 mix layD_ok cons_q42 (by kernel_rfl) (loops_mem loops_q42_0 (⟨⟨_, by kernel_rfl, l_q42_1⟩, trivial⟩)) S_q42_0_ok fun _ _ h => h
theorem loops_q42 : loopsIn code_q42 = [body_q42_0] := by kernel_rfl
theorem m_q42 : Meets Tryz.prog 127 c_q42 := meets_of (E := E_q42) (code := code_q42) mix layD_ok cons_q42 Tryz.func127 (by kernel_rfl) sg_q42 (by kernel_rfl) (fun y => y.1) c_q42.out (fun _ => rfl) c_q42.run (fun x => by kernel_rfl) (by kernel_rfl) (loops_mem loops_q42 (⟨⟨_, by kernel_rfl, l_q42_0⟩, trivial⟩))
noncomputable def sg_q43 : Sig := ⟨[(false, [.d (.sl .int)]), (false, [.d (.sl .int)])], [], true, [(false, [.own 0]), (false, [.own 1])], [(0, .arr false .int), (1, .arr false .int)]⟩
noncomputable def c_q43 : Con := ⟨sg_q43, List Int × List Int, fun x => M_impl_natDiv x.1 x.2.1, fun r => (r.1, r.2, ())⟩
noncomputable def code_q43 : Code := Tryz.f169.body.getD .skip
noncomputable def body_q43_0 : Code := (loopsIn code_q43).getD 0 .skip
noncomputable def body_q43_1 : Code := (loopsIn code_q43).getD 1 .skip
noncomputable def body_q43_2 : Code := (loopsIn body_q43_1).getD 0 .skip
noncomputable def body_q43_3 : Code := (loopsIn body_q43_1).getD 1 .skip
noncomputable def body_q43_4 : Code := (loopsIn body_q43_1).getD 2 .skip
noncomputable def D_q43_0 : LoopD := ⟨⟨mkSlots [(0, false, [.d (.sl .int)]), (6, false, [.d (.int .i64)]), (7, false, [.own 15360]), (8, false, [.own 15424]), (9, false, [.d (.int .i64)])] 239 0, [(15360, .arr false .int), (15424, .arr false .int)]⟩, [], [(.exit 0, ⟨mkSlots [(6, false, [.d (.int .i64)]), (7, false, [.own 15360]), (8, false, [.own 15424]), (9, false, [.d (.int .i64)])] 239 0, [(15360, .arr false .int), (15424, .arr false .int)]⟩, [])]⟩
noncomputable def D_q43_1 : LoopD := ⟨⟨mkSlots [(6, false, [.d (.int .i64)]), (7, false, [.own 15360]), (8, false, [.own 15424]), (9, false, [.d (.int .i64)]), (10, false, [.own 15488]), (11, false, [.d (.int .i64)]), (12, false, [.d (.int .i64)])] 239 0, [(15360, .arr false .int), (15424, .arr false .int), (15488, .arr false .int)]⟩, [], [(.exit 2, ⟨mkSlots [(6, false, [.d (.int .i64)]), (7, false, [.own 15360]), (10, false, [.own 15488])] 239 0, [(15360, .arr false .int), (15488, .arr false .int)]⟩, [])]⟩
noncomputable def D_q43_2 : LoopD := ⟨⟨mkSlots [(6, false, [.d (.int .i64)]), (7, false, [.own 15360]), (8, false, [.own 15424]), (9, false, [.d (.int .i64)]), (10, false, [.own 15488]), (11, false, [.d (.int .i64)]), (12, false, [.d (.int .i64)]), (14, false, [.d (.int .i64)]), (15, false, [.d (.int .i64)])] 239 0, [(15360, .arr false .int), (15424, .arr false .int), (15488, .arr false .int)]⟩, [], [(.exit 4, ⟨mkSlots [(6, false, [.d (.int .i64)]), (7, false, [.own 15360]), (8, false, [.own 15424]), (9, false, [.d (.int .i64)]), (10, false, [.own 15488]), (11, false, [.d (.int .i64)]), (12, false, [.d (.int .i64)]), (14, false, [.d (.int .i64)])] 239 0, [(15360, .arr false .int), (15424, .arr false .int), (15488, .arr false .int)]⟩, [])]⟩
noncomputable def D_q43_3 : LoopD := ⟨⟨mkSlots [(6, false, [.d (.int .i64)]), (7, false, [.own 15360]), (8, false, [.own 15424]), (9, false, [.d (.int .i64)]), (10, false, [.own 15488]), (11, false, [.d (.int .i64)]), (12, false, [.d (.int .i64)]), (14, false, [.d (.int .i64)]), (16, false, [.d (.int .i64)]), (135, false, [.d (.int .i64)]), (136, false, [.d (.int .i64)])] 239 0, [(15360, .arr false .int), (15424, .arr false .int), (15488, .arr false .int)]⟩, [], [(.exit 6, ⟨mkSlots [(6, false, [.d (.int .i64)]), (7, false, [.own 15360]), (8, false, [.own 15424]), (9, false, [.d (.int .i64)]), (10, false, [.own 15488]), (11, false, [.d (.int .i64)]), (12, false, [.d (.int .i64)]), (14, false, [.d (.int .i64)]), (16, false, [.d (.int .i64)])] 239 0, [(15360, .arr false .int), (15424, .arr false .int), (15488, .arr false .int)]⟩, [])]⟩
noncomputable def D_q43_4 : LoopD := ⟨⟨mkSlots [(6, false, [.d (.int .i64)]), (7, false, [.own 15360]), (8, false, [.own 15424]), (9, false, [.d (.int .i64)]), (10, false, [.own 15488]), (11, false, [.d (.int .i64)]), (12, false, [.d (.int .i64)]), (14, false, [.d (.int .i64)]), (19, false, [.d (.int .i64)]), (188, false, [.d (.int .i64)]), (189, false, [.d (.int .i64)])] 239 0, [(15360, .arr false .int), (15424, .arr false .int), (15488, .arr false .int)]⟩, [], [(.exit 8, ⟨mkSlots [(6, false, [.d (.int .i64)]), (7, false, [.own 15360]), (8, false, [.own 15424]), (9, false, [.d (.int .i64)]), (10, false, [.own 15488]), (11, false, [.d (.int .i64)]), (12, false, [.d (.int .i64)]), (14, false, [.d (.int .i64)]), (19, false, [.d (.int .i64)])] 239 0, [(15360, .arr false .int), (15424, .arr false .int), (15488, .arr false .int)]⟩, [])]⟩
noncomputable def S_q43_0_w (x : Tys D_q43_0.head.ks) : Option (OutT D_q43_0.outs) := @whileO ((List Int) × Int × Int × (List Int) × (List Int) × Unit) (Int × Int × (List Int) × (List Int) × Unit) S_impl_natDiv_0 x
noncomputable def S_q43_1_w (x : Tys D_q43_1.head.ks) : Option (OutT D_q43_1.outs) := @whileO (Int × Int × Int × Int × (List Int) × (List Int) × (List Int) × Unit) (Int × (List Int) × (List Int) × Unit) S_impl_natDiv_1 x
noncomputable def S_q43_2_w (x : Tys D_q43_2.head.ks) : Option (OutT D_q43_2.outs) := @whileO (Int × Int × Int × Int × Int × Int × (List Int) × (List Int) × (List Int) × Unit) (Int × Int × Int × Int × Int × (List Int) × (List Int) × (List Int) × Unit) S_impl_natDiv_2 x
noncomputable def S_q43_3_w (x : Tys D_q43_3.head.ks) : Option (OutT D_q43_3.outs) := @whileO (Int × Int × Int × Int × Int × Int × Int × Int × (List Int) × (List Int) × (List Int) × Unit) (Int × Int × Int × Int × Int × Int × (List Int) × (List Int) × (List Int) × Unit) S_impl_natDiv_3 x
noncomputable def S_q43_4_w (x : Tys D_q43_4.head.ks) : Option (OutT D_q43_4.outs) := @whileO (Int × Int × Int × Int × Int × Int × Int × Int × (List Int) × (List Int) × (List Int) × Unit) (Int × Int × Int × Int × Int × Int × (List Int) × (List Int) × (List Int) × Unit) S_impl_natDiv_4 x
noncomputable def E_q43 : Env := ⟨layD, [(188, c_q37), (142, c_q38), (189, c_q41), (127, c_q42), (171, c_q39)], [(9, mkLM D_q43_0 S_q43_0_w), (14, mkLM D_q43_1 S_q43_1_w), (18, mkLM D_q43_2 S_q43_2_w), (24, mkLM D_q43_3 S_q43_3_w), (38, mkLM D_q43_4 S_q43_4_w)], [(16, [(0, []), (1, []), (2, []), (3, []), (4, []), (5, []), (6, []), (7, []), (8, []), (9, []), (10, []), (11, []), (12, []), (13, []), (14, []), (15, [14, 0, 1, 2, 3, 4, 5, 6, 7, 8, 9, 10, 11, 12, 13])]), (17, [(0, []), (1, []), (2, []), (3, []), (4, []), (5, []), (6, [2, 0, 1]), (7, [5, 6, 0, 1, 2, 3, 4])]), (18, [(0, []), (1, []), (2, []), (3, []), (4, []), (5, []), (6, []), (7, []), (8, []), (9, []), (10, []), (11, []), (12, []), (13, []), (14, []), (15, []), (16, []), (17, []), (18, []), (19, []), (20, []), (21, [])]), (26, [(0, []), (1, []), (2, []), (3, []), (4, []), (5, []), (6, []), (7, []), (8, []), (9, []), (10, []), (11, []), (12, []), (13, []), (14, []), (15, [14, 0, 1, 2, 3, 4, 5, 6, 7, 8, 9, 10, 11, 12, 13])]), (40, [(0, []), (1, []), (2, []), (3, []), (4, []), (5, []), (6, []), (7, []), (8, []), (9, []), (10, []), (11, []), (12, []), (13, [12, 0, 1, 2, 3, 4, 5, 6, 7, 8, 9, 10, 11])])]⟩
theorem cons_q43 : ConsOk Tryz.prog E_q43.cons := consOk_cons m_q37 (callable_of Tryz.func188 (by kernel_rfl)) (consOk_cons m_q38 (callable_of Tryz.func142 (by kernel_rfl)) (consOk_cons m_q41 (callable_of Tryz.func189 (by kernel_rfl)) (consOk_cons m_q42 (callable_of Tryz.func127 (by kernel_rfl)) (consOk_cons m_q39 (callable_of Tryz.func171 (by kernel_rfl)) (consOk_nil)))))
theorem S_q43_4_ok (x : Tys D_q43_4.head.ks) : stepL E_q43 D_q43_4 body_q43_4 x = S_impl_natDiv_4 x := by kernel_rfl
theorem loops_q43_4 : loopsIn body_q43_4 = [] := by kernel_rfl
theorem l_q43_4 : LoopOk Tryz.prog (mkLM D_q43_4 S_q43_4_w) body_q43_4 := loop_ok2 mix layD_ok cons_q43 (by kernel_rfl) (loops_mem loops_q43_4 (trivial)) S_q43_4_ok fun _ _ h => h
theorem S_q43_3_ok (x : Tys D_q43_3.head.ks) : stepL E_q43 D_q43_3 body_q43_3 x = S_impl_natDiv_3 x := by kernel_rfl
theorem loops_q43_3 : loopsIn body_q43_3 = [] := by kernel_rfl
theorem l_q43_3 : LoopOk Tryz.prog (mkLM D_q43_3 S_q43_3_w) body_q43_3 := loop_ok2 mix layD_ok cons_q43 (by kernel_rfl) (loops_mem loops_q43_3 (trivial)) S_q43_3_ok fun _ _ h => h
theorem S_q43_2_ok (x : Tys D_q43_2.head.ks) : stepL E_q43 D_q43_2 body_q43_2 x = S_impl_natDiv_2 x := by kernel_rfl
theorem loops_q43_2 : loopsIn body_q43_2 = [] := by kernel_rfl
theorem l_q43_2 : LoopOk Tryz.prog (mkLM D_q43_2 S_q43_2_w) body_q43_2 := loop_ok2 mix layD_ok cons_q43 (by kernel_rfl) (loops_mem loops_q43_2 (trivial)) S_q43_2_ok fun _ _ h => h
theorem S_q43_1_ok (x : Tys D_q43_1.head.ks) : stepL E_q43 D_q43_1 body_q43_1 x = S_impl_natDiv_1 x := by kernel_rfl
theorem loops_q43_1 : loopsIn body_q43_1 = [body_q43_2, body_q43_3, body_q43_4] := by kernel_rfl
theorem l_q43_1 : LoopOk Tryz.prog (mkLM D_q43_1 S_q43_1_w) body_q43_1 := loop_ok2 mix layD_ok cons_q43 (by kernel_rfl) (loops_mem loops_q43_1 (⟨⟨_, by kernel_rfl, l_q43_2⟩, ⟨⟨_, by kernel_rfl, l_q43_3⟩, ⟨⟨_, by kernel_rfl, l_q43_4⟩, trivial⟩⟩⟩)) S_q43_1_ok fun _ _ h => h
theorem S_q43_0_ok (x : Tys D_q43_0.head.ks) : stepL E_q43 D_q43_0 body_q43_0 x = S_impl_natDiv_0 x := by kernel_rfl
theorem loops_q43_0 : loopsIn body_q43_0 = [] := by kernel_rfl
theorem l_q43_0 : LoopOk Tryz.prog (mkLM D_q43_0 S_q43_0_w) body_q43_0 := loop_ok2 mix layD_ok cons_q43 (by kernel_rfl) (loops_mem loops_q43_0 (trivial)) S_q43_0_ok fun _ _ h => h
theorem loops_q43 : loopsIn code_q43 = [body_q43_0, body_q43_1] := by kernel_rfl
theorem m_q43 : Meets Tryz.prog 169 c_q43 := meets_of (E := E_q43) (code := code_q43) mix layD_ok cons_q43 Tryz.func169 (by kernel_rfl) sg_q43 (by kernel_rfl) (fun y => (y.1, y.2.1)) c_q43.out (fun _ => rfl) c_q43.run (fun x => by kernel_rfl) (by kernel_rfl) (loops_mem loops_q43 (⟨⟨_, by kernel_rfl, l_q43_0⟩, ⟨⟨_, by kernel_rfl, l_q43_1⟩, trivial⟩⟩))
noncomputable def sg_q44 : Sig := ⟨[(false, [.d (.sl .int)]), (false, [.d (.sl .int)])], [], false, [(false, [.own 0])], [(0, .arr false .int)]⟩
noncomputable def c_q44 : Con := ⟨sg_q44, List Int, fun x => M_impl_natGcd x.1 x.2.1, fun r => (r, ())⟩
noncomputable def code_q44 : Code := Tryz.f132.body.getD .skip
noncomputable def body_q44_0 : Code := (loopsIn code_q44).getD 0 .skip
noncomputable def body_q44_1 : Code := (loopsIn code_q44).getD 1 .skip
noncomputable def D_q44_0 : LoopD := ⟨⟨mkSlots [(0, false, [.d (.sl .int)]), (1, false, [.d (.sl .int)])] 49 0, []⟩, [], [(.exit 0, ⟨mkSlots [(0, false, [.d (.sl .int)]), (1, false, [.d (.sl .int)])] 49 0, []⟩, [])]⟩
noncomputable def D_q44_1 : LoopD := ⟨⟨mkSlots [(7, false, [.d (.int .i64)]), (8, false, [.d (.int .i64)])] 49 0, []⟩, [], [(.exit 2, ⟨mkSlots [(7, false, [.d (.int .i64)])] 49 0, []⟩, [])]⟩
noncomputable def S_q44_0_w (x : Tys D_q44_0.head.ks) : Option (OutT D_q44_0.outs) := @whileO ((List Int) × (List Int) × Unit) ((List Int) × (List Int) × Unit) S_impl_natGcd_0 x
noncomputable def S_q44_1_w (x : Tys D_q44_1.head.ks) : Option (OutT D_q44_1.outs) := @whileO (Int × Int × Unit) (Int × Unit) S_impl_natGcd_1 x
noncomputable def E_q44 : Env := ⟨layD, [(169, c_q43), (142, c_q38)], [(1, mkLM D_q44_0 S_q44_0_w), (7, mkLM D_q44_1 S_q44_1_w)], [(6, [(0, []), (1, []), (2, []), (3, []), (4, []), (5, []), (6, [2, 0, 1]), (7, [5, 6, 0, 1, 2, 3, 4])]), (8, [(0, []), (1, []), (2, []), (3, []), (4, [0, 1]), (5, [3, 4, 0, 1, 2])])]⟩
theorem cons_q44 : ConsOk Tryz.prog E_q44.cons := consOk_cons m_q43 (callable_of Tryz.func169 (by kernel_rfl)) (consOk_cons m_q38 (callable_of Tryz.func142 (by kernel_rfl)) (consOk_nil))
theorem S_q44_1_ok (x : Tys D_q44_1.head.ks) : stepL E_q44 D_q44_1 body_q44_1 x = S_impl_natGcd_1 x := by kernel_rfl
theorem loops_q44_1 : loopsIn body_q44_1 = [] := by kernel_rfl
theorem l_q44_1 : LoopOk Tryz.prog (mkLM D_q44_1 S_q44_1_w) body_q44_1 := loop_ok2 mix layD_ok cons_q44 (by kernel_rfl) (loops_mem loops_q44_1 (trivial)) S_q44_1_ok fun _ _ h => h
theorem S_q44_0_ok (x : Tys D_q44_0.head.ks) : stepL E_q44 D_q44_0 body_q44_0 x = S_impl_natGcd_0 x := by kernel_rfl
theorem loops_q44_0 : loopsIn body_q44_0 = [] := by kernel_rfl
theorem l_q44_0 : LoopOk Tryz.prog (mkLM D_q44_0 S_q44_0_w) body_q44_0 := loop_ok2 mix layD_ok cons_q44 (by kernel_rfl) (loops_mem loops_q44_0 (trivial)) S_q44_0_ok fun _ _ h => h
theorem loops_q44 : loopsIn code_q44 = [body_q44_0, body_q44_1] := by kernel_rfl
theorem m_q44 : Meets Tryz.prog 132 c_q44 := meets_of (E := E_q44) (code := code_q44) mix layD_ok cons_q44 Tryz.func132 (by kernel_rfl) sg_q44 (by kernel_rfl) (fun y => y.1) c_q44.out (fun _ => rfl) c_q44.run (fun x => by kernel_rfl) (by kernel_rfl) (loops_mem loops_q44 (⟨⟨_, by kernel_rfl, l_q44_0⟩, ⟨⟨_, by kernel_rfl, l_q44_1⟩, trivial⟩⟩))
noncomputable def sg_q45 : Sig := ⟨[(false, [.d (.sl .int)])], [], false, [(false, [.d (.bool)])], []⟩
noncomputable def c_q45 : Con := ⟨sg_q45, Bool, fun x => M_impl_isOne x.1, fun r => (r, ())⟩
noncomputable def code_q45 : Code := Tryz.f131.body.getD .skip
noncomputable def E_q45 : Env := ⟨layD, [], [], []⟩
theorem cons_q45 : ConsOk Tryz.prog E_q45.cons := consOk_nil
theorem loops_q45 : loopsIn code_q45 = [] := by kernel_rfl
theorem m_q45 : Meets Tryz.prog 131 c_q45 := meets_of (E := E_q45) (code := code_q45) mix layD_ok cons_q45 Tryz.func131 (by kernel_rfl) sg_q45 (by kernel_rfl) (fun y => y.1) c_q45.out (fun _ => rfl) c_q45.run (fun x => by kernel_rfl) (by kernel_rfl) (loops_mem loops_q45 (trivial))
noncomputable def sg_q46 : Sig := ⟨[(true, [.d (.bool), .d (.sl .int), .d (.sl .int)])], [], false, [(false, [.d (.bool)])], []⟩
noncomputable def c_q46 : Con := ⟨sg_q46, Bool, fun x => M_impl_RatOk (⟨x.1, x.2.1, x.2.2.1⟩ : Rt), fun r => (r, ())⟩
noncomputable def code_q46 : Code := Tryz.f73.body.getD .skip
noncomputable def E_q46 : Env := ⟨layD, [(129, c_q36), (130, c_q35), (132, c_q44), (131, c_q45)], [], []⟩
theorem cons_q46 : ConsOk Tryz.prog E_q46.cons := consOk_cons m_q36 (callable_of Tryz.func129 (by kernel_rfl)) (consOk_cons m_q35 (callable_of Tryz.func130 (by kernel_rfl)) (consOk_cons m_q44 (callable_of Tryz.func132 (by kernel_rfl)) (consOk_cons m_q45 (callable_of Tryz.func131 (by kernel_rfl)) (consOk_nil))))
theorem loops_q46 : loopsIn code_q46 = [] := by kernel_rfl
theorem m_q46 : Meets Tryz.prog 73 c_q46 := meets_of (E := E_q46) (code := code_q46) mix layD_ok cons_q46 Tryz.func73 (by kernel_rfl) sg_q46 (by kernel_rfl) (fun y => y.1) c_q46.out (fun _ => rfl) c_q46.run (fun x => by kernel_rfl) (by kernel_rfl) (loops_mem loops_q46 (trivial))
noncomputable def sg_q47 : Sig := ⟨[(true, [.d (.int .i64), .d (.int .i64), .d (.sl .rat)])], [], false, [(false, [.d (.bool)])], []⟩
noncomputable def c_q47 : Con := ⟨sg_q47, Bool, fun x => M_impl_MatrixOk (⟨x.1, x.2.1, x.2.2.1⟩ : Mx), fun r => (r, ())⟩
noncomputable def code_q47 : Code := Tryz.f64.body.getD .skip
noncomputable def body_q47_0 : Code := (loopsIn code_q47).getD 0 .skip
noncomputable def D_q47_0 : LoopD := ⟨⟨mkSlots [(27, false, [.d (.sl .rat)]), (28, false, [.d (.int .i64)]), (29, false, [.d (.int .i64)])] 37 0, []⟩, [], [(.ret, ⟨mkSlots [(2, false, [.d (.bool)])] 37 0, []⟩, []), (.exit 0, ⟨mkSlots [] 37 0, []⟩, [])]⟩
noncomputable def S_q47_0_w (x : Tys D_q47_0.head.ks) : Option (OutT D_q47_0.outs) := @whileO ((List Rt) × Int × Int × Unit) ((Bool × Unit) ⊕ (Unit)) S_impl_MatrixOk_0 x
noncomputable def E_q47 : Env := ⟨layD, [(75, c_q34), (73, c_q46)], [(4, mkLM D_q47_0 S_q47_0_w)], []⟩
theorem cons_q47 : ConsOk Tryz.prog E_q47.cons := consOk_cons m_q34 (callable_of Tryz.func75 (by kernel_rfl)) (consOk_cons m_q46 (callable_of Tryz.func73 (by kernel_rfl)) (consOk_nil))
theorem S_q47_0_ok (x : Tys D_q47_0.head.ks) : stepL E_q47 D_q47_0 body_q47_0 x = S_impl_MatrixOk_0 x := by kernel_rfl
theorem loops_q47_0 : loopsIn body_q47_0 = [] := by kernel_rfl
theorem l_q47_0 : LoopOk Tryz.prog (mkLM D_q47_0 S_q47_0_w) body_q47_0 := loop_ok2 mix layD_ok cons_q47 (by kernel_rfl) (loops_mem loops_q47_0 (trivial)) S_q47_0_ok fun _ _ h => h
theorem loops_q47 : loopsIn code_q47 = [body_q47_0] := by kernel_rfl
theorem m_q47 : Meets Tryz.prog 64 c_q47 := meets_of (E := E_q47) (code := code_q47) mix layD_ok cons_q47 Tryz.func64 (by kernel_rfl) sg_q47 (by kernel_rfl) (fun y => y.1) c_q47.out (fun _ => rfl) c_q47.run (fun x => by kernel_rfl) (by kernel_rfl) (loops_mem loops_q47 (⟨⟨_, by kernel_rfl, l_q47_0⟩, trivial⟩))
noncomputable def sg_q48 : Sig := ⟨[(false, [.d (.bool)]), (false, [.own 64])], [(64, .arr false .int)], false, [(true, [.d (.bool), .own 0])], [(0, .arr false .int)]⟩
noncomputable def c_q48 : Con := ⟨sg_q48, Bg, fun x => M_impl_signed_dc x.1 x.2.1, fun r => (r.neg, r.mag, ())⟩
noncomputable def code_q48 : Code := Tryz.f170.body.getD .skip
noncomputable def E_q48 : Env := ⟨layD, [], [], []⟩
theorem cons_q48 : ConsOk Tryz.prog E_q48.cons := consOk_nil
theorem loops_q48 : loopsIn code_q48 = [] := by kernel_rfl
theorem m_q48 : Meets Tryz.prog 170 c_q48 := meets_of (E := E_q48) (code := code_q48) mix layD_ok cons_q48 Tryz.func170 (by kernel_rfl) sg_q48 (by kernel_rfl) (fun y => (⟨y.1, y.2.1⟩ : Bg)) c_q48.out (fun _ => rfl) c_q48.run (fun x => by kernel_rfl) (by kernel_rfl) (loops_mem loops_q48 (trivial))
noncomputable def sg_q49 : Sig := ⟨[(false, [.d (.sl .int)]), (false, [.d (.sl .int)])], [], false, [(false, [.own 0])], [(0, .arr false .int)]⟩
noncomputable def c_q49 : Con := ⟨sg_q49, List Int, fun x => M_impl_natAdd x.1 x.2.1, fun r => (r, ())⟩
noncomputable def code_q49 : Code := Tryz.f193.body.getD .skip
noncomputable def body_q49_0 : Code := (loopsIn code_q49).getD 0 .skip
noncomputable def D_q49_0 : LoopD := ⟨⟨mkSlots [(0, false, [.d (.sl .int)]), (1, false, [.d (.sl .int)]), (5, false, [.own 3648]), (6, false, [.d (.int .i64)]), (21, false, [.d (.int .i64)]), (22, false, [.d (.int .i64)])] 56 0, [(3648, .arr false .int)]⟩, [], [(.exit 0, ⟨mkSlots [(5, false, [.own 3648]), (6, false, [.d (.int .i64)])] 56 0, [(3648, .arr false .int)]⟩, [])]⟩
noncomputable def S_q49_0_w (x : Tys D_q49_0.head.ks) : Option (OutT D_q49_0.outs) := @whileO ((List Int) × (List Int) × Int × Int × Int × (List Int) × Unit) (Int × (List Int) × Unit) S_impl_natAdd_0 x
noncomputable def E_q49 : Env := ⟨layD, [], [(6, mkLM D_q49_0 S_q49_0_w)], []⟩
theorem cons_q49 : ConsOk Tryz.prog E_q49.cons := consOk_nil
theorem S_q49_0_ok (x : Tys D_q49_0.head.ks) : stepL E_q49 D_q49_0 body_q49_0 x = S_impl_natAdd_0 x := by kernel_rfl
theorem loops_q49_0 : loopsIn body_q49_0 = [] := by kernel_rfl
theorem l_q49_0 : LoopOk Tryz.prog (mkLM D_q49_0 S_q49_0_w) body_q49_0 := loop_ok2 mix layD_ok cons_q49 (by kernel_rfl) (loops_mem loops_q49_0 (trivial)) S_q49_0_ok fun _ _ h => h
theorem loops_q49 : loopsIn code_q49 = [body_q49_0] := by kernel_rfl
theorem m_q49 : Meets Tryz.prog 193 c_q49 := meets_of (E := E_q49) (code := code_q49) mix layD_ok cons_q49 Tryz.func193 (by kernel_rfl) sg_q49 (by kernel_rfl) (fun y => y.1) c_q49.out (fun _ => rfl) c_q49.run (fun x => by kernel_rfl) (by kernel_rfl) (loops_mem loops_q49 (⟨⟨_, by kernel_rfl, l_q49_0⟩, trivial⟩))
noncomputable def sg_q50 : Sig := ⟨[(false, [.d (.int .i64)])], [], false, [(true, [.d (.bool), .own 0])], [(0, .arr false .int)]⟩
noncomputable def c_q50 : Con := ⟨sg_q50, Bg, fun x => M_impl_BigIntOf x.1, fun r => (r.neg, r.mag, ())⟩
noncomputable def code_q50 : Code := Tryz.f187.body.getD .skip
noncomputable def E_q50 : Env := ⟨layD, [(200, c_q40), (170, c_q48), (193, c_q49)], [], []⟩
theorem cons_q50 : ConsOk Tryz.prog E_q50.cons := consOk_cons m_q40 (callable_of Tryz.func200 (by kernel_rfl)) (consOk_cons m_q48 (callable_of Tryz.func170 (by kernel_rfl)) (consOk_cons m_q49 (callable_of Tryz.func193 (by kernel_rfl)) (consOk_nil)))
theorem loops_q50 : loopsIn code_q50 = [] := by kernel_rfl
theorem m_q50 : Meets Tryz.prog 187 c_q50 := meets_of (E := E_q50) (code := code_q50) mix layD_ok cons_q50 Tryz.func187 (by kernel_rfl) sg_q50 (by kernel_rfl) (fun y => (⟨y.1, y.2.1⟩ : Bg)) c_q50.out (fun _ => rfl) c_q50.run (fun x => by kernel_rfl) (by kernel_rfl) (loops_mem loops_q50 (trivial))
noncomputable def sg_q51 : Sig := ⟨[(false, [.d (.bool)]), (false, [.d (.sl .int)])], [], false, [(true, [.d (.bool), .d (.sl .int)])], []⟩
noncomputable def c_q51 : Con := ⟨sg_q51, Bg, fun x => M_impl_signed x.1 x.2.1, fun r => (r.neg, r.mag, ())⟩
noncomputable def code_q51 : Code := Tryz.f170.body.getD .skip
noncomputable def E_q51 : Env := ⟨layD, [], [], []⟩
theorem cons_q51 : ConsOk Tryz.prog E_q51.cons := consOk_nil
theorem loops_q51 : loopsIn code_q51 = [] := by kernel_rfl
theorem m_q51 : Meets Tryz.prog 170 c_q51 := meets_of (E := E_q51) (code := code_q51) mix layD_ok cons_q51 Tryz.func170 (by kernel_rfl) sg_q51 (by kernel_rfl) (fun y => (⟨y.1, y.2.1⟩ : Bg)) c_q51.out (fun _ => rfl) c_q51.run (fun x => by kernel_rfl) (by kernel_rfl) (loops_mem loops_q51 (trivial))
noncomputable def sg_q52 : Sig := ⟨[(true, [.d (.bool), .d (.sl .int)]), (false, [.d (.sl .int)])], [], false, [(true, [.d (.bool), .d (.sl .int), .d (.sl .int)])], []⟩
noncomputable def c_q52 : Con := ⟨sg_q52, Rt, fun x => M_impl_lowest (⟨x.1, x.2.1⟩ : Bg) x.2.2.1, fun r => (r.neg, r.mag, r.den, ())⟩
noncomputable def code_q52 : Code := Tryz.f125.body.getD .skip
noncomputable def E_q52 : Env := ⟨layD, [(132, c_q44), (131, c_q45), (169, c_q43), (170, c_q48)], [], []⟩
theorem cons_q52 : ConsOk Tryz.prog E_q52.cons := consOk_cons m_q44 (callable_of Tryz.func132 (by kernel_rfl)) (consOk_cons m_q45 (callable_of Tryz.func131 (by kernel_rfl)) (consOk_cons m_q43 (callable_of Tryz.func169 (by kernel_rfl)) (consOk_cons m_q48 (callable_of Tryz.func170 (by kernel_rfl)) (consOk_nil))))
theorem loops_q52 : loopsIn code_q52 = [] := by kernel_rfl
theorem m_q52 : Meets Tryz.prog 125 c_q52 := meets_of (E := E_q52) (code := code_q52) mix layD_ok cons_q52 Tryz.func125 (by kernel_rfl) sg_q52 (by kernel_rfl) (fun y => (⟨y.1, y.2.1, y.2.2.1⟩ : Rt)) c_q52.out (fun _ => rfl) c_q52.run (fun x => by kernel_rfl) (by kernel_rfl) (loops_mem loops_q52 (trivial))
noncomputable def sg_q53 : Sig := ⟨[(true, [.d (.bool), .d (.sl .int), .d (.sl .int)])], [], false, [(true, [.d (.bool), .own 0, .own 1])], [(0, .arr false .int), (1, .arr false .int)]⟩
noncomputable def c_q53 : Con := ⟨sg_q53, Rt, fun x => M_impl_copyRat (⟨x.1, x.2.1, x.2.2.1⟩ : Rt), fun r => (r.neg, r.mag, r.den, ())⟩
noncomputable def code_q53 : Code := Tryz.f84.body.getD .skip
noncomputable def E_q53 : Env := ⟨layD, [(142, c_q38)], [], [(1, [(0, []), (1, []), (2, []), (3, []), (4, []), (5, []), (8, []), (9, []), (6, [5, 4, 3]), (7, []), (10, [9, 6, 8, 5, 4, 3]), (11, []), (12, [11, 10, 0, 1, 2, 3, 4, 5, 6, 7, 8, 9])])]⟩
theorem cons_q53 : ConsOk Tryz.prog E_q53.cons := consOk_cons m_q38 (callable_of Tryz.func142 (by kernel_rfl)) (consOk_nil)
theorem loops_q53 : loopsIn code_q53 = [] := by kernel_rfl
theorem m_q53 : Meets Tryz.prog 84 c_q53 := meets_of (E := E_q53) (code := code_q53) mix layD_ok cons_q53 Tryz.func84 (by kernel_rfl) sg_q53 (by kernel_rfl) (fun y => (⟨y.1, y.2.1, y.2.2.1⟩ : Rt)) c_q53.out (fun _ => rfl) c_q53.run (fun x => by kernel_rfl) (by kernel_rfl) (loops_mem loops_q53 (trivial))
noncomputable def sg_q54 : Sig := ⟨[(true, [.d (.bool), .d (.sl .int)]), (true, [.d (.bool), .d (.sl .int)])], [], false, [(true, [.d (.bool), .own 0, .own 1])], [(0, .arr false .int), (1, .arr false .int)]⟩
noncomputable def c_q54 : Con := ⟨sg_q54, Rt, fun x => M_impl_RatMake (⟨x.1, x.2.1⟩ : Bg) (⟨x.2.2.1, x.2.2.2.1⟩ : Bg), fun r => (r.neg, r.mag, r.den, ())⟩
noncomputable def code_q54 : Code := Tryz.f186.body.getD .skip
noncomputable def E_q54 : Env := ⟨layD, [(129, c_q36), (170, c_q51), (125, c_q52), (84, c_q53)], [], [(3, [(0, []), (1, []), (2, []), (3, []), (4, []), (5, []), (6, []), (8, []), (9, []), (7, [4, 6, 1, 3, 5, 0, 2]), (10, [7, 9, 4, 6, 8, 1, 3, 5, 0, 2]), (11, [10, 7, 9, 4, 6, 8, 1, 3, 5, 0, 2]), (12, [11, 0, 1, 2, 3, 4, 5, 6, 7, 8, 9, 10])])]⟩
theorem cons_q54 : ConsOk Tryz.prog E_q54.cons := consOk_cons m_q36 (callable_of Tryz.func129 (by kernel_rfl)) (consOk_cons m_q51 (callable_of Tryz.func170 (by kernel_rfl)) (consOk_cons m_q52 (callable_of Tryz.func125 (by kernel_rfl)) (consOk_cons m_q53 (callable_of Tryz.func84 (by kernel_rfl)) (consOk_nil))))
theorem loops_q54 : loopsIn code_q54 = [] := by kernel_rfl
theorem m_q54 : Meets Tryz.prog 186 c_q54 := meets_of (E := E_q54) (code := code_q54) mix layD_ok cons_q54 Tryz.func186 (by kernel_rfl) sg_q54 (by kernel_rfl) (fun y => (⟨y.1, y.2.1, y.2.2.1⟩ : Rt)) c_q54.out (fun _ => rfl) c_q54.run (fun x => by kernel_rfl) (by kernel_rfl) (loops_mem loops_q54 (trivial))
noncomputable def sg_q55 : Sig := ⟨[(false, [.d (.int .i64)]), (false, [.d (.int .i64)])], [], false, [(true, [.d (.bool), .own 0, .own 1])], [(0, .arr false .int), (1, .arr false .int)]⟩
noncomputable def c_q55 : Con := ⟨sg_q55, Rt, fun x => M_impl_RatOf x.1 x.2.1, fun r => (r.neg, r.mag, r.den, ())⟩
noncomputable def code_q55 : Code := Tryz.f168.body.getD .skip
noncomputable def E_q55 : Env := ⟨layD, [(187, c_q50), (186, c_q54)], [], []⟩
theorem cons_q55 : ConsOk Tryz.prog E_q55.cons := consOk_cons m_q50 (callable_of Tryz.func187 (by kernel_rfl)) (consOk_cons m_q54 (callable_of Tryz.func186 (by kernel_rfl)) (consOk_nil))
theorem loops_q55 : loopsIn code_q55 = [] := by kernel_rfl
theorem m_q55 : Meets Tryz.prog 168 c_q55 := meets_of (E := E_q55) (code := code_q55) mix layD_ok cons_q55 Tryz.func168 (by kernel_rfl) sg_q55 (by kernel_rfl) (fun y => (⟨y.1, y.2.1, y.2.2.1⟩ : Rt)) c_q55.out (fun _ => rfl) c_q55.run (fun x => by kernel_rfl) (by kernel_rfl) (loops_mem loops_q55 (trivial))
noncomputable def sg_q56 : Sig := ⟨[(false, [.d (.int .i64)])], [], false, [(true, [.d (.bool), .own 0, .own 1])], [(0, .arr false .int), (1, .arr false .int)]⟩
noncomputable def c_q56 : Con := ⟨sg_q56, Rt, fun x => M_impl_RatFromInt x.1, fun r => (r.neg, r.mag, r.den, ())⟩
noncomputable def code_q56 : Code := Tryz.f124.body.getD .skip
noncomputable def E_q56 : Env := ⟨layD, [(168, c_q55)], [], []⟩
theorem cons_q56 : ConsOk Tryz.prog E_q56.cons := consOk_cons m_q55 (callable_of Tryz.func168 (by kernel_rfl)) (consOk_nil)
theorem loops_q56 : loopsIn code_q56 = [] := by kernel_rfl
theorem m_q56 : Meets Tryz.prog 124 c_q56 := meets_of (E := E_q56) (code := code_q56) mix layD_ok cons_q56 Tryz.func124 (by kernel_rfl) sg_q56 (by kernel_rfl) (fun y => (⟨y.1, y.2.1, y.2.2.1⟩ : Rt)) c_q56.out (fun _ => rfl) c_q56.run (fun x => by kernel_rfl) (by kernel_rfl) (loops_mem loops_q56 (trivial))
noncomputable def sg_q57 : Sig := ⟨[(false, [.d (.int .i64)])], [], false, [(true, [.d (.bool), .own 0, .own 1])], [(0, .arr false .int), (1, .arr false .int)]⟩
noncomputable def c_q57 : Con := ⟨sg_q57, Rt, fun x => M_impl_whole x.1, fun r => (r.neg, r.mag, r.den, ())⟩
noncomputable def code_q57 : Code := Tryz.f67.body.getD .skip
noncomputable def E_q57 : Env := ⟨layD, [(124, c_q56)], [], []⟩
theorem cons_q57 : ConsOk Tryz.prog E_q57.cons := consOk_cons m_q56 (callable_of Tryz.func124 (by kernel_rfl)) (consOk_nil)
theorem loops_q57 : loopsIn code_q57 = [] := by kernel_rfl
theorem m_q57 : Meets Tryz.prog 67 c_q57 := meets_of (E := E_q57) (code := code_q57) mix layD_ok cons_q57 Tryz.func67 (by kernel_rfl) sg_q57 (by kernel_rfl) (fun y => (⟨y.1, y.2.1, y.2.2.1⟩ : Rt)) c_q57.out (fun _ => rfl) c_q57.run (fun x => by kernel_rfl) (by kernel_rfl) (loops_mem loops_q57 (trivial))
noncomputable def sg_q58 : Sig := ⟨[(false, [.d (.int .i64)]), (false, [.d (.int .i64)])], [], false, [(true, [.d (.bool), .own 0, .own 1])], [(0, .arr false .int), (1, .arr false .int)]⟩
noncomputable def c_q58 : Con := ⟨sg_q58, Rt, fun x => M_impl_unit_c1 x.1 x.2.1, fun r => (r.neg, r.mag, r.den, ())⟩
noncomputable def code_q58 : Code := Tryz.f141.body.getD .skip
noncomputable def E_q58 : Env := ⟨layD, [(67, c_q57)], [], []⟩
theorem cons_q58 : ConsOk Tryz.prog E_q58.cons := consOk_cons m_q57 (callable_of Tryz.func67 (by kernel_rfl)) (consOk_nil)
theorem loops_q58 : loopsIn code_q58 = [] := by kernel_rfl
theorem m_q58 : Meets Tryz.prog 141 c_q58 := meets_of (E := E_q58) (code := code_q58) mix layD_ok cons_q58 Tryz.func141 (by kernel_rfl) sg_q58 (by kernel_rfl) (fun y => (⟨y.1, y.2.1, y.2.2.1⟩ : Rt)) c_q58.out (fun _ => rfl) c_q58.run (fun x => by kernel_rfl) (by kernel_rfl) (loops_mem loops_q58 (trivial))
noncomputable def sg_q59 : Sig := ⟨[(false, [.d (.int .i64)]), (false, [.d (.int .i64)]), (false, [.fn 141 []])], [], false, [(true, [.d (.int .i64), .d (.int .i64), .dp 0])], [(0, .deep .rat)]⟩
noncomputable def c_q59 : Con := ⟨sg_q59, Mx, fun x => M_impl_built__impl_unit_c1 x.1 x.2.1, fun r => (r.rows, r.cols, r.cells, ())⟩
noncomputable def code_q59 : Code := Tryz.f76.body.getD .skip
noncomputable def body_q59_0 : Code := (loopsIn code_q59).getD 0 .skip
noncomputable def body_q59_1 : Code := (loopsIn body_q59_0).getD 0 .skip
noncomputable def D_q59_0 : LoopD := ⟨⟨mkSlots [(1, false, [.d (.int .i64)]), (2, false, [.fn 141 []]), (6, false, [.lp 384 0]), (7, false, [.lp 448 0]), (13, false, [.d (.int .i64)]), (14, false, [.d (.int .i64)])] 33 0, [(384, .box [.d (.int .i64), .d (.int .i64), .d (.sl .rat)]), (448, .box [.d (.int .i64), .d (.int .i64), .dp 2176]), (2176, .deep .rat)]⟩, [(.boxD 448 2, 2176, .rat)], [(.exit 0, ⟨mkSlots [(6, false, [.lp 384 0]), (7, false, [.lp 448 0])] 33 0, [(384, .box [.d (.int .i64), .d (.int .i64), .d (.sl .rat)]), (448, .box [.d (.int .i64), .d (.int .i64), .dp 2176]), (2176, .deep .rat)]⟩, [(.boxD 448 2, 2176, .rat)])]⟩
noncomputable def D_q59_1 : LoopD := ⟨⟨mkSlots [(1, false, [.d (.int .i64)]), (2, false, [.fn 141 []]), (6, false, [.lp 384 0]), (7, false, [.lp 448 0]), (8, false, [.d (.int .i64)]), (13, false, [.d (.int .i64)]), (14, false, [.d (.int .i64)]), (17, false, [.d (.int .i64)]), (18, false, [.d (.int .i64)])] 33 0, [(384, .box [.d (.int .i64), .d (.int .i64), .d (.sl .rat)]), (448, .box [.d (.int .i64), .d (.int .i64), .dp 2176]), (2176, .deep .rat)]⟩, [(.boxD 448 2, 2176, .rat)], [(.exit 2, ⟨mkSlots [(1, false, [.d (.int .i64)]), (2, false, [.fn 141 []]), (6, false, [.lp 384 0]), (7, false, [.lp 448 0]), (13, false, [.d (.int .i64)]), (14, false, [.d (.int .i64)])] 33 0, [(384, .box [.d (.int .i64), .d (.int .i64), .d (.sl .rat)]), (448, .box [.d (.int .i64), .d (.int .i64), .dp 2176]), (2176, .deep .rat)]⟩, [(.boxD 448 2, 2176, .rat)])]⟩
noncomputable def S_q59_0_w (x : Tys D_q59_0.head.ks) : Option (OutT D_q59_0.outs) := @whileO (Int × Int × Int × Int × Int × (List Rt) × Int × Int × (List Rt) × Unit) (Int × Int × (List Rt) × Int × Int × (List Rt) × Unit) S_impl_built__impl_unit_c1_0 x
noncomputable def S_q59_1_w (x : Tys D_q59_1.head.ks) : Option (OutT D_q59_1.outs) := @whileO (Int × Int × Int × Int × Int × Int × Int × Int × (List Rt) × Int × Int × (List Rt) × Unit) (Int × Int × Int × Int × Int × (List Rt) × Int × Int × (List Rt) × Unit) S_impl_built__impl_unit_c1_1 x
noncomputable def E_q59 : Env := ⟨layD, [(141, c_q58)], [(3, mkLM D_q59_0 S_q59_0_w), (6, mkLM D_q59_1 S_q59_1_w)], [(8, [(0, []), (1, []), (2, []), (3, []), (4, []), (5, [2, 3, 4]), (6, [5, 2, 3, 4]), (7, [1, 6, 5, 0, 2, 3, 4]), (8, []), (9, [8, 7, 0, 1, 2, 3, 4, 5, 6])])]⟩
theorem cons_q59 : ConsOk Tryz.prog E_q59.cons := consOk_cons m_q58 (callable_of Tryz.func141 (by kernel_rfl)) (consOk_nil)
theorem S_q59_1_ok (x : Tys D_q59_1.head.ks) : stepL E_q59 D_q59_1 body_q59_1 x = S_impl_built__impl_unit_c1_1 x := by kernel_rfl
theorem loops_q59_1 : loopsIn body_q59_1 = [] := by kernel_rfl
theorem l_q59_1 : LoopOk Tryz.prog (mkLM D_q59_1 S_q59_1_w) body_q59_1 := loop_ok2 mix layD_ok cons_q59 (by kernel_rfl) (loops_mem loops_q59_1 (trivial)) S_q59_1_ok fun _ _ h => h
theorem S_q59_0_ok (x : Tys D_q59_0.head.ks) : stepL E_q59 D_q59_0 body_q59_0 x = S_impl_built__impl_unit_c1_0 x := by kernel_rfl
theorem loops_q59_0 : loopsIn body_q59_0 = [body_q59_1] := by kernel_rfl
theorem l_q59_0 : LoopOk Tryz.prog (mkLM D_q59_0 S_q59_0_w) body_q59_0 := loop_ok2 mix layD_ok cons_q59 (by kernel_rfl) (loops_mem loops_q59_0 (⟨⟨_, by kernel_rfl, l_q59_1⟩, trivial⟩)) S_q59_0_ok fun _ _ h => h
theorem loops_q59 : loopsIn code_q59 = [body_q59_0] := by kernel_rfl
theorem m_q59 : Meets Tryz.prog 76 c_q59 := meets_of (E := E_q59) (code := code_q59) mix layD_ok cons_q59 Tryz.func76 (by kernel_rfl) sg_q59 (by kernel_rfl) (fun y => (⟨y.1, y.2.1, y.2.2.1⟩ : Mx)) c_q59.out (fun _ => rfl) c_q59.run (fun x => by kernel_rfl) (by kernel_rfl) (loops_mem loops_q59 (⟨⟨_, by kernel_rfl, l_q59_0⟩, trivial⟩))
noncomputable def sg_q60 : Sig := ⟨[(false, [.d (.int .i64)])], [], false, [(true, [.d (.int .i64), .d (.int .i64), .dp 0])], [(0, .deep .rat)]⟩
noncomputable def c_q60 : Con := ⟨sg_q60, Mx, fun x => M_impl_unit x.1, fun r => (r.rows, r.cols, r.cells, ())⟩
noncomputable def code_q60 : Code := Tryz.f83.body.getD .skip
noncomputable def E_q60 : Env := ⟨layD, [(76, c_q59)], [], []⟩
theorem cons_q60 : ConsOk Tryz.prog E_q60.cons := consOk_cons m_q59 (callable_of Tryz.func76 (by kernel_rfl)) (consOk_nil)
theorem loops_q60 : loopsIn code_q60 = [] := by kernel_rfl
theorem m_q60 : Meets Tryz.prog 83 c_q60 := meets_of (E := E_q60) (code := code_q60) mix layD_ok cons_q60 Tryz.func83 (by kernel_rfl) sg_q60 (by kernel_rfl) (fun y => (⟨y.1, y.2.1, y.2.2.1⟩ : Mx)) c_q60.out (fun _ => rfl) c_q60.run (fun x => by kernel_rfl) (by kernel_rfl) (loops_mem loops_q60 (trivial))
noncomputable def sg_q61 : Sig := ⟨[(true, [.d (.int .i64), .d (.int .i64), .d (.sl .rat)]), (false, [.d (.int .i64)]), (false, [.d (.int .i64)])], [], false, [(true, [.d (.bool), .d (.sl .int), .d (.sl .int)])], []⟩
noncomputable def c_q61 : Con := ⟨sg_q61, Rt, fun x => M_impl_Matrix_at (⟨x.1, x.2.1, x.2.2.1⟩ : Mx) x.2.2.2.1 x.2.2.2.2.1, fun r => (r.neg, r.mag, r.den, ())⟩
noncomputable def code_q61 : Code := Tryz.f72.body.getD .skip
noncomputable def E_q61 : Env := ⟨layD, [], [], []⟩
theorem cons_q61 : ConsOk Tryz.prog E_q61.cons := consOk_nil
theorem loops_q61 : loopsIn code_q61 = [] := by kernel_rfl
theorem m_q61 : Meets Tryz.prog 72 c_q61 := meets_of (E := E_q61) (code := code_q61) mix layD_ok cons_q61 Tryz.func72 (by kernel_rfl) sg_q61 (by kernel_rfl) (fun y => (⟨y.1, y.2.1, y.2.2.1⟩ : Rt)) c_q61.out (fun _ => rfl) c_q61.run (fun x => by kernel_rfl) (by kernel_rfl) (loops_mem loops_q61 (trivial))
noncomputable def sg_q62 : Sig := ⟨[(false, [.d (.int .i64)]), (false, [.d (.int .i64)]), (false, [.sp [.int .i64, .int .i64, .sl .rat]]), (false, [.sp [.int .i64, .int .i64, .sl .rat]])], [], false, [(true, [.d (.bool), .d (.sl .int), .d (.sl .int)])], []⟩
noncomputable def c_q62 : Con := ⟨sg_q62, Rt, fun x => M_impl_beside_c1 x.1 x.2.1 (⟨x.2.2.1, x.2.2.2.1, x.2.2.2.2.1⟩ : Mx) (⟨x.2.2.2.2.2.1, x.2.2.2.2.2.2.1, x.2.2.2.2.2.2.2.1⟩ : Mx), fun r => (r.neg, r.mag, r.den, ())⟩
noncomputable def code_q62 : Code := Tryz.f128.body.getD .skip
noncomputable def E_q62 : Env := ⟨layD, [(72, c_q61)], [], []⟩
theorem cons_q62 : ConsOk Tryz.prog E_q62.cons := consOk_cons m_q61 (callable_of Tryz.func72 (by kernel_rfl)) (consOk_nil)
theorem loops_q62 : loopsIn code_q62 = [] := by kernel_rfl
theorem m_q62 : Meets Tryz.prog 128 c_q62 := meets_of (E := E_q62) (code := code_q62) mix layD_ok cons_q62 Tryz.func128 (by kernel_rfl) sg_q62 (by kernel_rfl) (fun y => (⟨y.1, y.2.1, y.2.2.1⟩ : Rt)) c_q62.out (fun _ => rfl) c_q62.run (fun x => by kernel_rfl) (by kernel_rfl) (loops_mem loops_q62 (trivial))
noncomputable def sg_q63 : Sig := ⟨[(false, [.d (.int .i64)]), (false, [.d (.int .i64)]), (false, [.fn 128 [[.int .i64, .int .i64, .sl .rat], [.int .i64, .int .i64, .sl .rat]]])], [], false, [(true, [.d (.int .i64), .d (.int .i64), .own 0])], [(0, .arr false .rat)]⟩
noncomputable def c_q63 : Con := ⟨sg_q63, Mx, fun x => M_impl_built__impl_beside_c1 x.1 x.2.1 (⟨x.2.2.1, x.2.2.2.1, x.2.2.2.2.1⟩ : Mx) (⟨x.2.2.2.2.2.1, x.2.2.2.2.2.2.1, x.2.2.2.2.2.2.2.1⟩ : Mx), fun r => (r.rows, r.cols, r.cells, ())⟩
noncomputable def code_q63 : Code := Tryz.f76.body.getD .skip
noncomputable def body_q63_0 : Code := (loopsIn code_q63).getD 0 .skip
noncomputable def body_q63_1 : Code := (loopsIn body_q63_0).getD 0 .skip
noncomputable def D_q63_0 : LoopD := ⟨⟨mkSlots [(1, false, [.d (.int .i64)]), (2, false, [.fn 128 [[.int .i64, .int .i64, .sl .rat], [.int .i64, .int .i64, .sl .rat]]]), (6, false, [.lp 384 0]), (7, false, [.lp 448 0]), (13, false, [.d (.int .i64)]), (14, false, [.d (.int .i64)])] 33 0, [(384, .box [.d (.int .i64), .d (.int .i64), .d (.sl .rat)]), (448, .box [.d (.int .i64), .d (.int .i64), .own 2176]), (2176, .arr false .rat)]⟩, [(.box 448 2, 2176, .rat)], [(.exit 0, ⟨mkSlots [(6, false, [.lp 384 0]), (7, false, [.lp 448 0])] 33 0, [(384, .box [.d (.int .i64), .d (.int .i64), .d (.sl .rat)]), (448, .box [.d (.int .i64), .d (.int .i64), .own 2176]), (2176, .arr false .rat)]⟩, [(.box 448 2, 2176, .rat)])]⟩
noncomputable def D_q63_1 : LoopD := ⟨⟨mkSlots [(1, false, [.d (.int .i64)]), (2, false, [.fn 128 [[.int .i64, .int .i64, .sl .rat], [.int .i64, .int .i64, .sl .rat]]]), (6, false, [.lp 384 0]), (7, false, [.lp 448 0]), (8, false, [.d (.int .i64)]), (13, false, [.d (.int .i64)]), (14, false, [.d (.int .i64)]), (17, false, [.d (.int .i64)]), (18, false, [.d (.int .i64)])] 33 0, [(384, .box [.d (.int .i64), .d (.int .i64), .d (.sl .rat)]), (448, .box [.d (.int .i64), .d (.int .i64), .own 2176]), (2176, .arr false .rat)]⟩, [(.box 448 2, 2176, .rat)], [(.exit 2, ⟨mkSlots [(1, false, [.d (.int .i64)]), (2, false, [.fn 128 [[.int .i64, .int .i64, .sl .rat], [.int .i64, .int .i64, .sl .rat]]]), (6, false, [.lp 384 0]), (7, false, [.lp 448 0]), (13, false, [.d (.int .i64)]), (14, false, [.d (.int .i64)])] 33 0, [(384, .box [.d (.int .i64), .d (.int .i64), .d (.sl .rat)]), (448, .box [.d (.int .i64), .d (.int .i64), .own 2176]), (2176, .arr false .rat)]⟩, [(.box 448 2, 2176, .rat)])]⟩
noncomputable def S_q63_0_w (x : Tys D_q63_0.head.ks) : Option (OutT D_q63_0.outs) := @whileO (Int × Int × Int × (List Rt) × Int × Int × (List Rt) × Int × Int × Int × Int × (List Rt) × Int × Int × (List Rt) × Unit) (Int × Int × (List Rt) × Int × Int × (List Rt) × Unit) S_impl_built__impl_beside_c1_0 x
noncomputable def S_q63_1_w (x : Tys D_q63_1.head.ks) : Option (OutT D_q63_1.outs) := @whileO (Int × Int × Int × (List Rt) × Int × Int × (List Rt) × Int × Int × Int × Int × Int × Int × Int × (List Rt) × Int × Int × (List Rt) × Unit) (Int × Int × Int × (List Rt) × Int × Int × (List Rt) × Int × Int × Int × Int × (List Rt) × Int × Int × (List Rt) × Unit) S_impl_built__impl_beside_c1_1 x
noncomputable def E_q63 : Env := ⟨lay, [(128, c_q62)], [(3, mkLM D_q63_0 S_q63_0_w), (6, mkLM D_q63_1 S_q63_1_w)], [(8, [(0, []), (1, []), (2, []), (3, []), (4, []), (5, [2, 3, 4]), (6, [5, 2, 3, 4]), (7, [1, 6, 5, 0, 2, 3, 4]), (8, []), (9, [8, 7, 0, 1, 2, 3, 4, 5, 6])])]⟩
theorem cons_q63 : ConsOk Tryz.prog E_q63.cons := consOk_cons m_q62 (callable_of Tryz.func128 (by kernel_rfl)) (consOk_nil)
theorem S_q63_1_ok (x : Tys D_q63_1.head.ks) : stepL E_q63 D_q63_1 body_q63_1 x = S_impl_built__impl_beside_c1_1 x := by kernel_rfl
theorem loops_q63_1 : loopsIn body_q63_1 = [] := by kernel_rfl
theorem l_q63_1 : LoopOk Tryz.prog (mkLM D_q63_1 S_q63_1_w) body_q63_1 := loop_ok2 mix lay_ok cons_q63 (by kernel_rfl) (loops_mem loops_q63_1 (trivial)) S_q63_1_ok fun _ _ h => h
theorem S_q63_0_ok (x : Tys D_q63_0.head.ks) : stepL E_q63 D_q63_0 body_q63_0 x = S_impl_built__impl_beside_c1_0 x := by kernel_rfl
theorem loops_q63_0 : loopsIn body_q63_0 = [body_q63_1] := by kernel_rfl
theorem l_q63_0 : LoopOk Tryz.prog (mkLM D_q63_0 S_q63_0_w) body_q63_0 := loop_ok2 mix lay_ok cons_q63 (by kernel_rfl) (loops_mem loops_q63_0 (⟨⟨_, by kernel_rfl, l_q63_1⟩, trivial⟩)) S_q63_0_ok fun _ _ h => h
theorem loops_q63 : loopsIn code_q63 = [body_q63_0] := by kernel_rfl
theorem m_q63 : Meets Tryz.prog 76 c_q63 := meets_of (E := E_q63) (code := code_q63) mix lay_ok cons_q63 Tryz.func76 (by kernel_rfl) sg_q63 (by kernel_rfl) (fun y => (⟨y.1, y.2.1, y.2.2.1⟩ : Mx)) c_q63.out (fun _ => rfl) c_q63.run (fun x => by kernel_rfl) (by kernel_rfl) (loops_mem loops_q63 (⟨⟨_, by kernel_rfl, l_q63_0⟩, trivial⟩))
noncomputable def sg_q64 : Sig := ⟨[(true, [.d (.int .i64), .d (.int .i64), .d (.sl .rat)]), (true, [.d (.int .i64), .d (.int .i64), .d (.sl .rat)])], [], false, [(true, [.d (.int .i64), .d (.int .i64), .own 0])], [(0, .arr false .rat)]⟩
noncomputable def c_q64 : Con := ⟨sg_q64, Mx, fun x => M_impl_beside (⟨x.1, x.2.1, x.2.2.1⟩ : Mx) (⟨x.2.2.2.1, x.2.2.2.2.1, x.2.2.2.2.2.1⟩ : Mx), fun r => (r.rows, r.cols, r.cells, ())⟩
noncomputable def code_q64 : Code := Tryz.f71.body.getD .skip
noncomputable def E_q64 : Env := ⟨layD, [(76, c_q63)], [], []⟩
theorem cons_q64 : ConsOk Tryz.prog E_q64.cons := consOk_cons m_q63 (callable_of Tryz.func76 (by kernel_rfl)) (consOk_nil)
theorem loops_q64 : loopsIn code_q64 = [] := by kernel_rfl
theorem m_q64 : Meets Tryz.prog 71 c_q64 := meets_of (E := E_q64) (code := code_q64) mix layD_ok cons_q64 Tryz.func71 (by kernel_rfl) sg_q64 (by kernel_rfl) (fun y => (⟨y.1, y.2.1, y.2.2.1⟩ : Mx)) c_q64.out (fun _ => rfl) c_q64.run (fun x => by kernel_rfl) (by kernel_rfl) (loops_mem loops_q64 (trivial))
noncomputable def sg_q68 : Sig := ⟨[(false, [.d (.sl .rat)])], [], false, [(false, [.own 0])], [(0, .arr false .rat)]⟩
noncomputable def c_q68 : Con := ⟨sg_q68, List Rt, fun x => M_impl_copyVector x.1, fun r => (r, ())⟩
noncomputable def code_q68 : Code := Tryz.f120.body.getD .skip
noncomputable def body_q68_0 : Code := (loopsIn code_q68).getD 0 .skip
noncomputable def D_q68_0 : LoopD := ⟨⟨mkSlots [(3, false, [.own 1280]), (6, false, [.d (.sl .rat)]), (7, false, [.d (.int .i64)]), (8, false, [.d (.int .i64)])] 19 0, [(1280, .arr false .rat)]⟩, [(.slot 3 0, 1280, .rat)], [(.exit 0, ⟨mkSlots [(3, false, [.own 1280])] 19 0, [(1280, .arr false .rat)]⟩, [(.slot 3 0, 1280, .rat)])]⟩
noncomputable def S_q68_0_w (x : Tys D_q68_0.head.ks) : Option (OutT D_q68_0.outs) := @whileO ((List Rt) × Int × Int × (List Rt) × Unit) ((List Rt) × Unit) S_impl_copyVector_0 x
noncomputable def E_q68 : Env := ⟨lay, [(84, c_q53)], [(3, mkLM D_q68_0 S_q68_0_w)], []⟩
theorem cons_q68 : ConsOk Tryz.prog E_q68.cons := consOk_cons m_q53 (callable_of Tryz.func84 (by kernel_rfl)) (consOk_nil)
theorem S_q68_0_ok (x : Tys D_q68_0.head.ks) : stepL E_q68 D_q68_0 body_q68_0 x = S_impl_copyVector_0 x := by kernel_rfl
theorem loops_q68_0 : loopsIn body_q68_0 = [] := by kernel_rfl
theorem l_q68_0 : LoopOk Tryz.prog (mkLM D_q68_0 S_q68_0_w) body_q68_0 := loop_ok2 mix lay_ok cons_q68 (by kernel_rfl) (loops_mem loops_q68_0 (trivial)) S_q68_0_ok fun _ _ h => h
theorem loops_q68 : loopsIn code_q68 = [body_q68_0] := by kernel_rfl
theorem m_q68 : Meets Tryz.prog 120 c_q68 := meets_of (E := E_q68) (code := code_q68) mix lay_ok cons_q68 Tryz.func120 (by kernel_rfl) sg_q68 (by kernel_rfl) (fun y => y.1) c_q68.out (fun _ => rfl) c_q68.run (fun x => by kernel_rfl) (by kernel_rfl) (loops_mem loops_q68 (⟨⟨_, by kernel_rfl, l_q68_0⟩, trivial⟩))
noncomputable def sg_q69 : Sig := ⟨[(true, [.d (.int .i64), .d (.int .i64), .own 191]), (false, [.d (.int .i64)]), (false, [.d (.int .i64)])], [(191, .arr false .rat)], false, [(true, [.d (.bool), .d (.sl .int), .d (.sl .int)])], [(191, .arr false .rat)]⟩
noncomputable def c_q69 : Con := ⟨sg_q69, Rt × List Rt, fun x => M_impl_Matrix_at_mdd (⟨x.1, x.2.1, x.2.2.2.2.1⟩ : Mx) x.2.2.1 x.2.2.2.1, fun r => (r.1.neg, r.1.mag, r.1.den, r.2, ())⟩
noncomputable def code_q69 : Code := Tryz.f72.body.getD .skip
noncomputable def E_q69 : Env := ⟨layD, [], [], []⟩
theorem cons_q69 : ConsOk Tryz.prog E_q69.cons := consOk_nil
theorem loops_q69 : loopsIn code_q69 = [] := by kernel_rfl
theorem m_q69 : Meets Tryz.prog 72 c_q69 := meets_of (E := E_q69) (code := code_q69) mix layD_ok cons_q69 Tryz.func72 (by kernel_rfl) sg_q69 (by kernel_rfl) (fun y => ((⟨y.1, y.2.1, y.2.2.1⟩ : Rt), y.2.2.2.1)) c_q69.out (fun _ => rfl) c_q69.run (fun x => by kernel_rfl) (by kernel_rfl) (loops_mem loops_q69 (trivial))
noncomputable def sg_q66 : Sig := ⟨[(true, [.d (.bool), .d (.sl .int), .d (.sl .int)])], [], false, [(false, [.d (.bool)])], []⟩
noncomputable def c_q66 : Con := ⟨sg_q66, Bool, fun x => M_impl_isZero (⟨x.1, x.2.1, x.2.2.1⟩ : Rt), fun r => (r, ())⟩
noncomputable def code_q66 : Code := Tryz.f121.body.getD .skip
noncomputable def E_q66 : Env := ⟨layD, [], [], []⟩
theorem cons_q66 : ConsOk Tryz.prog E_q66.cons := consOk_nil
theorem loops_q66 : loopsIn code_q66 = [] := by kernel_rfl
theorem m_q66 : Meets Tryz.prog 121 c_q66 := meets_of (E := E_q66) (code := code_q66) mix layD_ok cons_q66 Tryz.func121 (by kernel_rfl) sg_q66 (by kernel_rfl) (fun y => y.1) c_q66.out (fun _ => rfl) c_q66.run (fun x => by kernel_rfl) (by kernel_rfl) (loops_mem loops_q66 (trivial))
noncomputable def sg_q70 : Sig := ⟨[(true, [.d (.int .i64), .d (.int .i64), .own 191]), (false, [.d (.int .i64)])], [(191, .arr false .rat)], false, [(false, [.win 191])], [(191, .arr false .rat)]⟩
noncomputable def c_q70 : Con := ⟨sg_q70, (Nat × Nat) × List Rt, fun x => M_impl_Matrix_row_md (⟨x.1, x.2.1, x.2.2.2.1⟩ : Mx) x.2.2.1, fun r => (r.1.1, r.1.2, r.2, ())⟩
noncomputable def code_q70 : Code := Tryz.f122.body.getD .skip
noncomputable def E_q70 : Env := ⟨lay, [], [], []⟩
theorem cons_q70 : ConsOk Tryz.prog E_q70.cons := consOk_nil
theorem loops_q70 : loopsIn code_q70 = [] := by kernel_rfl
theorem m_q70 : Meets Tryz.prog 122 c_q70 := meets_of (E := E_q70) (code := code_q70) mix lay_ok cons_q70 Tryz.func122 (by kernel_rfl) sg_q70 (by kernel_rfl) (fun y => ((y.1, y.2.1), y.2.2.1)) c_q70.out (fun _ => rfl) c_q70.run (fun x => by kernel_rfl) (by kernel_rfl) (loops_mem loops_q70 (trivial))
noncomputable def sg_q71 : Sig := ⟨[(true, [.d (.bool), .d (.sl .int), .d (.sl .int)])], [], false, [(false, [.d (.bool)])], []⟩
noncomputable def c_q71 : Con := ⟨sg_q71, Bool, fun x => M_impl_void (⟨x.1, x.2.1, x.2.2.1⟩ : Rt), fun r => (r, ())⟩
noncomputable def code_q71 : Code := Tryz.f86.body.getD .skip
noncomputable def E_q71 : Env := ⟨layD, [], [], []⟩
theorem cons_q71 : ConsOk Tryz.prog E_q71.cons := consOk_nil
theorem loops_q71 : loopsIn code_q71 = [] := by kernel_rfl
theorem m_q71 : Meets Tryz.prog 86 c_q71 := meets_of (E := E_q71) (code := code_q71) mix layD_ok cons_q71 Tryz.func86 (by kernel_rfl) sg_q71 (by kernel_rfl) (fun y => y.1) c_q71.out (fun _ => rfl) c_q71.run (fun x => by kernel_rfl) (by kernel_rfl) (loops_mem loops_q71 (trivial))
noncomputable def sg_q72 : Sig := ⟨[(true, [.d (.bool), .d (.sl .int)]), (true, [.d (.bool), .d (.sl .int)])], [], false, [(true, [.d (.bool), .own 0])], [(0, .arr false .int)]⟩
noncomputable def c_q72 : Con := ⟨sg_q72, Bg, fun x => M_impl_bigMul (⟨x.1, x.2.1⟩ : Bg) (⟨x.2.2.1, x.2.2.2.1⟩ : Bg), fun r => (r.neg, r.mag, ())⟩
noncomputable def code_q72 : Code := Tryz.f126.body.getD .skip
noncomputable def E_q72 : Env := ⟨layD, [(127, c_q42), (170, c_q48)], [], [(1, [(0, []), (1, []), (2, []), (3, []), (4, []), (5, []), (6, []), (7, []), (8, []), (9, [6, 8, 5, 7]), (10, [4, 9, 1, 3, 6, 8, 0, 2, 5, 7]), (11, [10, 0, 1, 2, 3, 4, 5, 6, 7, 8, 9])])]⟩
theorem cons_q72 : ConsOk Tryz.prog E_q72.cons := consOk_cons m_q42 (callable_of Tryz.func127 (by kernel_rfl)) (consOk_cons m_q48 (callable_of Tryz.func170 (by kernel_rfl)) (consOk_nil))
theorem loops_q72 : loopsIn code_q72 = [] := by kernel_rfl
theorem m_q72 : Meets Tryz.prog 126 c_q72 := meets_of (E := E_q72) (code := code_q72) mix layD_ok cons_q72 Tryz.func126 (by kernel_rfl) sg_q72 (by kernel_rfl) (fun y => (⟨y.1, y.2.1⟩ : Bg)) c_q72.out (fun _ => rfl) c_q72.run (fun x => by kernel_rfl) (by kernel_rfl) (loops_mem loops_q72 (trivial))
noncomputable def sg_q73 : Sig := ⟨[(true, [.d (.bool), .own 1]), (false, [.own 64])], [(1, .arr false .int), (64, .arr false .int)], false, [(true, [.d (.bool), .own 0, .own 1])], [(0, .arr false .int), (1, .arr false .int)]⟩
noncomputable def c_q73 : Con := ⟨sg_q73, Rt, fun x => M_impl_lowest_cc (⟨x.1, x.2.1⟩ : Bg) x.2.2.1, fun r => (r.neg, r.mag, r.den, ())⟩
noncomputable def code_q73 : Code := Tryz.f125.body.getD .skip
noncomputable def E_q73 : Env := ⟨layD, [(132, c_q44), (131, c_q45), (169, c_q43), (170, c_q48)], [], []⟩
theorem cons_q73 : ConsOk Tryz.prog E_q73.cons := consOk_cons m_q44 (callable_of Tryz.func132 (by kernel_rfl)) (consOk_cons m_q45 (callable_of Tryz.func131 (by kernel_rfl)) (consOk_cons m_q43 (callable_of Tryz.func169 (by kernel_rfl)) (consOk_cons m_q48 (callable_of Tryz.func170 (by kernel_rfl)) (consOk_nil))))
theorem loops_q73 : loopsIn code_q73 = [] := by kernel_rfl
theorem m_q73 : Meets Tryz.prog 125 c_q73 := meets_of (E := E_q73) (code := code_q73) mix layD_ok cons_q73 Tryz.func125 (by kernel_rfl) sg_q73 (by kernel_rfl) (fun y => (⟨y.1, y.2.1, y.2.2.1⟩ : Rt)) c_q73.out (fun _ => rfl) c_q73.run (fun x => by kernel_rfl) (by kernel_rfl) (loops_mem loops_q73 (trivial))
noncomputable def sg_q74 : Sig := ⟨[(true, [.d (.bool), .d (.sl .int), .d (.sl .int)]), (true, [.d (.bool), .d (.sl .int), .d (.sl .int)])], [], false, [(true, [.d (.bool), .own 0, .own 1])], [(0, .arr false .int), (1, .arr false .int)]⟩
noncomputable def c_q74 : Con := ⟨sg_q74, Rt, fun x => M_impl_mul (⟨x.1, x.2.1, x.2.2.1⟩ : Rt) (⟨x.2.2.2.1, x.2.2.2.2.1, x.2.2.2.2.2.1⟩ : Rt), fun r => (r.neg, r.mag, r.den, ())⟩
noncomputable def code_q74 : Code := Tryz.f68.body.getD .skip
noncomputable def E_q74 : Env := ⟨layD, [(86, c_q71), (126, c_q72), (127, c_q42), (125, c_q73)], [], [(3, [(0, []), (1, []), (2, []), (3, []), (5, []), (6, []), (7, []), (8, []), (4, [1, 3, 0, 2]), (9, [6, 8, 4, 5, 7, 1, 3, 0, 2]), (10, [4, 9, 1, 3, 6, 8, 0, 2, 5, 7]), (11, [10, 0, 1, 2, 3, 4, 5, 6, 7, 8, 9])])]⟩
theorem cons_q74 : ConsOk Tryz.prog E_q74.cons := consOk_cons m_q71 (callable_of Tryz.func86 (by kernel_rfl)) (consOk_cons m_q72 (callable_of Tryz.func126 (by kernel_rfl)) (consOk_cons m_q42 (callable_of Tryz.func127 (by kernel_rfl)) (consOk_cons m_q73 (callable_of Tryz.func125 (by kernel_rfl)) (consOk_nil))))
theorem loops_q74 : loopsIn code_q74 = [] := by kernel_rfl
theorem m_q74 : Meets Tryz.prog 68 c_q74 := meets_of (E := E_q74) (code := code_q74) mix layD_ok cons_q74 Tryz.func68 (by kernel_rfl) sg_q74 (by kernel_rfl) (fun y => (⟨y.1, y.2.1, y.2.2.1⟩ : Rt)) c_q74.out (fun _ => rfl) c_q74.run (fun x => by kernel_rfl) (by kernel_rfl) (loops_mem loops_q74 (trivial))
noncomputable def sg_q75 : Sig := ⟨[(true, [.d (.bool), .d (.sl .int), .d (.sl .int)]), (true, [.d (.bool), .d (.sl .int), .d (.sl .int)])], [], false, [(true, [.d (.bool), .own 0, .own 1])], [(0, .arr false .int), (1, .arr false .int)]⟩
noncomputable def c_q75 : Con := ⟨sg_q75, Rt, fun x => M_impl_div (⟨x.1, x.2.1, x.2.2.1⟩ : Rt) (⟨x.2.2.2.1, x.2.2.2.2.1, x.2.2.2.2.2.1⟩ : Rt), fun r => (r.neg, r.mag, r.den, ())⟩
noncomputable def code_q75 : Code := Tryz.f87.body.getD .skip
noncomputable def E_q75 : Env := ⟨layD, [(86, c_q71), (68, c_q74)], [], []⟩
theorem cons_q75 : ConsOk Tryz.prog E_q75.cons := consOk_cons m_q71 (callable_of Tryz.func86 (by kernel_rfl)) (consOk_cons m_q74 (callable_of Tryz.func68 (by kernel_rfl)) (consOk_nil))
theorem loops_q75 : loopsIn code_q75 = [] := by kernel_rfl
theorem m_q75 : Meets Tryz.prog 87 c_q75 := meets_of (E := E_q75) (code := code_q75) mix layD_ok cons_q75 Tryz.func87 (by kernel_rfl) sg_q75 (by kernel_rfl) (fun y => (⟨y.1, y.2.1, y.2.2.1⟩ : Rt)) c_q75.out (fun _ => rfl) c_q75.run (fun x => by kernel_rfl) (by kernel_rfl) (loops_mem loops_q75 (trivial))
noncomputable def sg_q76 : Sig := ⟨[(false, [.d (.sl .rat)])], [], false, [(false, [.d (.bool)])], []⟩
noncomputable def c_q76 : Con := ⟨sg_q76, Bool, fun x => M_impl_complete x.1, fun r => (r, ())⟩
noncomputable def code_q76 : Code := Tryz.f123.body.getD .skip
noncomputable def body_q76_0 : Code := (loopsIn code_q76).getD 0 .skip
noncomputable def D_q76_0 : LoopD := ⟨⟨mkSlots [(5, false, [.d (.sl .rat)]), (6, false, [.d (.int .i64)]), (7, false, [.d (.int .i64)])] 14 0, []⟩, [], [(.ret, ⟨mkSlots [(2, false, [.d (.bool)])] 14 0, []⟩, []), (.exit 0, ⟨mkSlots [] 14 0, []⟩, [])]⟩
noncomputable def S_q76_0_w (x : Tys D_q76_0.head.ks) : Option (OutT D_q76_0.outs) := @whileO ((List Rt) × Int × Int × Unit) ((Bool × Unit) ⊕ (Unit)) S_impl_complete_0 x
noncomputable def E_q76 : Env := ⟨layD, [(86, c_q71)], [(2, mkLM D_q76_0 S_q76_0_w)], []⟩
theorem cons_q76 : ConsOk Tryz.prog E_q76.cons := consOk_cons m_q71 (callable_of Tryz.func86 (by kernel_rfl)) (consOk_nil)
theorem S_q76_0_ok (x : Tys D_q76_0.head.ks) : stepL E_q76 D_q76_0 body_q76_0 x = S_impl_complete_0 x := by kernel_rfl
theorem loops_q76_0 : loopsIn body_q76_0 = [] := by kernel_rfl
theorem l_q76_0 : LoopOk Tryz.prog (mkLM D_q76_0 S_q76_0_w) body_q76_0 := loop_ok2 mix layD_ok cons_q76 (by kernel_rfl) (loops_mem loops_q76_0 (trivial)) S_q76_0_ok fun _ _ h => h
theorem loops_q76 : loopsIn code_q76 = [body_q76_0] := by kernel_rfl
theorem m_q76 : Meets Tryz.prog 123 c_q76 := meets_of (E := E_q76) (code := code_q76) mix layD_ok cons_q76 Tryz.func123 (by kernel_rfl) sg_q76 (by kernel_rfl) (fun y => y.1) c_q76.out (fun _ => rfl) c_q76.run (fun x => by kernel_rfl) (by kernel_rfl) (loops_mem loops_q76 (⟨⟨_, by kernel_rfl, l_q76_0⟩, trivial⟩))
noncomputable def sg_q77 : Sig := ⟨[(true, [.d (.bool), .d (.sl .int)])], [], false, [(true, [.d (.bool), .own 0])], [(0, .arr false .int)]⟩
noncomputable def c_q77 : Con := ⟨sg_q77, Bg, fun x => M_impl_bigNeg (⟨x.1, x.2.1⟩ : Bg), fun r => (r.neg, r.mag, ())⟩
noncomputable def code_q77 : Code := Tryz.f166.body.getD .skip
noncomputable def E_q77 : Env := ⟨layD, [(142, c_q38), (170, c_q48)], [], [(1, [(0, []), (1, []), (2, []), (3, []), (4, []), (5, [4, 3]), (6, [2, 5, 1, 4, 0, 3]), (7, [6, 0, 1, 2, 3, 4, 5])])]⟩
theorem cons_q77 : ConsOk Tryz.prog E_q77.cons := consOk_cons m_q38 (callable_of Tryz.func142 (by kernel_rfl)) (consOk_cons m_q48 (callable_of Tryz.func170 (by kernel_rfl)) (consOk_nil))
theorem loops_q77 : loopsIn code_q77 = [] := by kernel_rfl
theorem m_q77 : Meets Tryz.prog 166 c_q77 := meets_of (E := E_q77) (code := code_q77) mix layD_ok cons_q77 Tryz.func166 (by kernel_rfl) sg_q77 (by kernel_rfl) (fun y => (⟨y.1, y.2.1⟩ : Bg)) c_q77.out (fun _ => rfl) c_q77.run (fun x => by kernel_rfl) (by kernel_rfl) (loops_mem loops_q77 (trivial))
noncomputable def sg_q78 : Sig := ⟨[(true, [.d (.bool), .d (.sl .int), .d (.sl .int)])], [], false, [(true, [.d (.bool), .own 0, .own 1])], [(0, .arr false .int), (1, .arr false .int)]⟩
noncomputable def c_q78 : Con := ⟨sg_q78, Rt, fun x => M_impl_neg (⟨x.1, x.2.1, x.2.2.1⟩ : Rt), fun r => (r.neg, r.mag, r.den, ())⟩
noncomputable def code_q78 : Code := Tryz.f115.body.getD .skip
noncomputable def E_q78 : Env := ⟨layD, [(86, c_q71), (166, c_q77), (142, c_q38)], [], [(3, [(0, []), (1, []), (3, []), (4, []), (2, [1, 0]), (5, [4, 2, 3, 1, 0]), (6, []), (7, [6, 5, 0, 1, 2, 3, 4])])]⟩
theorem cons_q78 : ConsOk Tryz.prog E_q78.cons := consOk_cons m_q71 (callable_of Tryz.func86 (by kernel_rfl)) (consOk_cons m_q77 (callable_of Tryz.func166 (by kernel_rfl)) (consOk_cons m_q38 (callable_of Tryz.func142 (by kernel_rfl)) (consOk_nil)))
theorem loops_q78 : loopsIn code_q78 = [] := by kernel_rfl
theorem m_q78 : Meets Tryz.prog 115 c_q78 := meets_of (E := E_q78) (code := code_q78) mix layD_ok cons_q78 Tryz.func115 (by kernel_rfl) sg_q78 (by kernel_rfl) (fun y => (⟨y.1, y.2.1, y.2.2.1⟩ : Rt)) c_q78.out (fun _ => rfl) c_q78.run (fun x => by kernel_rfl) (by kernel_rfl) (loops_mem loops_q78 (trivial))
noncomputable def sg_q79 : Sig := ⟨[(false, [.d (.sl .int)]), (false, [.d (.sl .int)])], [], false, [(false, [.d (.bool)])], []⟩
noncomputable def c_q79 : Con := ⟨sg_q79, Bool, fun x => M_impl_sameInts x.1 x.2.1, fun r => (r, ())⟩
noncomputable def code_q79 : Code := Tryz.f135.body.getD .skip
noncomputable def body_q79_0 : Code := (loopsIn code_q79).getD 0 .skip
noncomputable def D_q79_0 : LoopD := ⟨⟨mkSlots [(0, false, [.d (.sl .int)]), (1, false, [.d (.sl .int)]), (12, false, [.d (.int .i64)]), (13, false, [.d (.int .i64)])] 26 0, []⟩, [], [(.ret, ⟨mkSlots [(4, false, [.d (.bool)])] 26 0, []⟩, []), (.exit 0, ⟨mkSlots [] 26 0, []⟩, [])]⟩
noncomputable def S_q79_0_w (x : Tys D_q79_0.head.ks) : Option (OutT D_q79_0.outs) := @whileO ((List Int) × (List Int) × Int × Int × Unit) ((Bool × Unit) ⊕ (Unit)) S_impl_sameInts_0 x
noncomputable def E_q79 : Env := ⟨layD, [], [(4, mkLM D_q79_0 S_q79_0_w)], [(6, [(0, []), (1, []), (2, []), (3, []), (4, []), (5, []), (6, []), (7, []), (8, [])])]⟩
theorem cons_q79 : ConsOk Tryz.prog E_q79.cons := consOk_nil
theorem S_q79_0_ok (x : Tys D_q79_0.head.ks) : stepL E_q79 D_q79_0 body_q79_0 x = S_impl_sameInts_0 x := by kernel_rfl
theorem loops_q79_0 : loopsIn body_q79_0 = [] := by kernel_rfl
theorem l_q79_0 : LoopOk Tryz.prog (mkLM D_q79_0 S_q79_0_w) body_q79_0 := loop_ok2 mix layD_ok cons_q79 (by kernel_rfl) (loops_mem loops_q79_0 (trivial)) S_q79_0_ok fun _ _ h => h
theorem loops_q79 : loopsIn code_q79 = [body_q79_0] := by kernel_rfl
theorem m_q79 : Meets Tryz.prog 135 c_q79 := meets_of (E := E_q79) (code := code_q79) mix layD_ok cons_q79 Tryz.func135 (by kernel_rfl) sg_q79 (by kernel_rfl) (fun y => y.1) c_q79.out (fun _ => rfl) c_q79.run (fun x => by kernel_rfl) (by kernel_rfl) (loops_mem loops_q79 (⟨⟨_, by kernel_rfl, l_q79_0⟩, trivial⟩))
noncomputable def sg_q80 : Sig := ⟨[(false, [.d (.sl .int)]), (false, [.d (.sl .int)])], [], false, [(false, [.own 0])], [(0, .arr false .int)]⟩
noncomputable def c_q80 : Con := ⟨sg_q80, List Int, fun x => M_impl_natSub x.1 x.2.1, fun r => (r, ())⟩
noncomputable def code_q80 : Code := Tryz.f194.body.getD .skip
noncomputable def body_q80_0 : Code := (loopsIn code_q80).getD 0 .skip
noncomputable def D_q80_0 : LoopD := ⟨⟨mkSlots [(1, false, [.d (.sl .int)]), (5, false, [.own 2816]), (6, false, [.d (.int .i64)]), (12, false, [.d (.int .i64)]), (13, false, [.d (.int .i64)])] 43 0, [(2816, .arr false .int)]⟩, [], [(.exit 0, ⟨mkSlots [(5, false, [.own 2816])] 43 0, [(2816, .arr false .int)]⟩, [])]⟩
noncomputable def S_q80_0_w (x : Tys D_q80_0.head.ks) : Option (OutT D_q80_0.outs) := @whileO ((List Int) × Int × Int × Int × (List Int) × Unit) ((List Int) × Unit) S_impl_natSub_0 x
noncomputable def E_q80 : Env := ⟨layD, [(142, c_q38), (171, c_q39)], [(4, mkLM D_q80_0 S_q80_0_w)], []⟩
theorem cons_q80 : ConsOk Tryz.prog E_q80.cons := consOk_cons m_q38 (callable_of Tryz.func142 (by kernel_rfl)) (consOk_cons m_q39 (callable_of Tryz.func171 (by kernel_rfl)) (consOk_nil))
theorem S_q80_0_ok (x : Tys D_q80_0.head.ks) : stepL E_q80 D_q80_0 body_q80_0 x = S_impl_natSub_0 x := by kernel_rfl
theorem loops_q80_0 : loopsIn body_q80_0 = [] := by kernel_rfl
theorem l_q80_0 : LoopOk Tryz.prog (mkLM D_q80_0 S_q80_0_w) body_q80_0 := loop_ok2 mix layD_ok cons_q80 (by kernel_rfl) (loops_mem loops_q80_0 (trivial)) S_q80_0_ok fun _ _ h => h
theorem loops_q80 : loopsIn code_q80 = [body_q80_0] := by kernel_rfl
theorem m_q80 : Meets Tryz.prog 194 c_q80 := meets_of (E := E_q80) (code := code_q80) mix layD_ok cons_q80 Tryz.func194 (by kernel_rfl) sg_q80 (by kernel_rfl) (fun y => y.1) c_q80.out (fun _ => rfl) c_q80.run (fun x => by kernel_rfl) (by kernel_rfl) (loops_mem loops_q80 (⟨⟨_, by kernel_rfl, l_q80_0⟩, trivial⟩))
noncomputable def sg_q81 : Sig := ⟨[(true, [.d (.bool), .d (.sl .int)]), (true, [.d (.bool), .d (.sl .int)])], [], false, [(true, [.d (.bool), .own 0])], [(0, .arr false .int)]⟩
noncomputable def c_q81 : Con := ⟨sg_q81, Bg, fun x => M_impl_bigAdd (⟨x.1, x.2.1⟩ : Bg) (⟨x.2.2.1, x.2.2.2.1⟩ : Bg), fun r => (r.neg, r.mag, ())⟩
noncomputable def code_q81 : Code := Tryz.f176.body.getD .skip
noncomputable def E_q81 : Env := ⟨layD, [(193, c_q49), (170, c_q48), (188, c_q37), (194, c_q80)], [], [(2, [(0, []), (1, []), (2, []), (3, []), (4, []), (5, []), (6, [3, 5, 2, 4]), (7, [1, 6, 0, 3, 5, 2, 4]), (8, [7, 0, 1, 2, 3, 4, 5, 6])]), (4, [(0, []), (1, []), (2, []), (3, []), (4, []), (5, []), (6, [3, 5, 2, 4]), (7, [1, 6, 0, 3, 5, 2, 4]), (8, [7, 0, 1, 2, 3, 4, 5, 6])]), (5, [(0, []), (1, []), (2, []), (3, []), (4, []), (5, []), (6, [3, 5, 2, 4]), (7, [1, 6, 0, 3, 5, 2, 4]), (8, [7, 0, 1, 2, 3, 4, 5, 6])])]⟩
theorem cons_q81 : ConsOk Tryz.prog E_q81.cons := consOk_cons m_q49 (callable_of Tryz.func193 (by kernel_rfl)) (consOk_cons m_q48 (callable_of Tryz.func170 (by kernel_rfl)) (consOk_cons m_q37 (callable_of Tryz.func188 (by kernel_rfl)) (consOk_cons m_q80 (callable_of Tryz.func194 (by kernel_rfl)) (consOk_nil))))
theorem loops_q81 : loopsIn code_q81 = [] := by kernel_rfl
theorem m_q81 : Meets Tryz.prog 176 c_q81 := meets_of (E := E_q81) (code := code_q81) mix layD_ok cons_q81 Tryz.func176 (by kernel_rfl) sg_q81 (by kernel_rfl) (fun y => (⟨y.1, y.2.1⟩ : Bg)) c_q81.out (fun _ => rfl) c_q81.run (fun x => by kernel_rfl) (by kernel_rfl) (loops_mem loops_q81 (trivial))
noncomputable def sg_q82 : Sig := ⟨[(true, [.d (.bool), .d (.sl .int), .d (.sl .int)]), (true, [.d (.bool), .d (.sl .int), .d (.sl .int)])], [], false, [(true, [.d (.bool), .own 0, .own 1])], [(0, .arr false .int), (1, .arr false .int)]⟩
noncomputable def c_q82 : Con := ⟨sg_q82, Rt, fun x => M_impl_add (⟨x.1, x.2.1, x.2.2.1⟩ : Rt) (⟨x.2.2.2.1, x.2.2.2.2.1, x.2.2.2.2.2.1⟩ : Rt), fun r => (r.neg, r.mag, r.den, ())⟩
noncomputable def code_q82 : Code := Tryz.f143.body.getD .skip
noncomputable def E_q82 : Env := ⟨layD, [(86, c_q71), (135, c_q79), (176, c_q81), (142, c_q38), (125, c_q73), (126, c_q72), (127, c_q42)], [], [(4, [(0, []), (1, []), (2, []), (3, []), (5, []), (6, []), (4, [1, 3, 0, 2]), (7, [6, 4, 5, 1, 3, 0, 2]), (8, [4, 7, 1, 3, 6, 0, 2, 5]), (9, [8, 0, 1, 2, 3, 4, 5, 6, 7])]), (7, [(0, []), (1, []), (3, []), (4, []), (5, []), (6, []), (2, [0, 1]), (7, [4, 6, 2, 3, 5, 0, 1]), (8, [2, 7, 0, 1, 4, 6, 3, 5]), (9, [8, 0, 1, 2, 3, 4, 5, 6, 7])])]⟩
theorem cons_q82 : ConsOk Tryz.prog E_q82.cons := consOk_cons m_q71 (callable_of Tryz.func86 (by kernel_rfl)) (consOk_cons m_q79 (callable_of Tryz.func135 (by kernel_rfl)) (consOk_cons m_q81 (callable_of Tryz.func176 (by kernel_rfl)) (consOk_cons m_q38 (callable_of Tryz.func142 (by kernel_rfl)) (consOk_cons m_q73 (callable_of Tryz.func125 (by kernel_rfl)) (consOk_cons m_q72 (callable_of Tryz.func126 (by kernel_rfl)) (consOk_cons m_q42 (callable_of Tryz.func127 (by kernel_rfl)) (consOk_nil)))))))
theorem loops_q82 : loopsIn code_q82 = [] := by kernel_rfl
theorem m_q82 : Meets Tryz.prog 143 c_q82 := meets_of (E := E_q82) (code := code_q82) mix layD_ok cons_q82 Tryz.func143 (by kernel_rfl) sg_q82 (by kernel_rfl) (fun y => (⟨y.1, y.2.1, y.2.2.1⟩ : Rt)) c_q82.out (fun _ => rfl) c_q82.run (fun x => by kernel_rfl) (by kernel_rfl) (loops_mem loops_q82 (trivial))
noncomputable def sg_q83 : Sig := ⟨[(true, [.d (.bool), .d (.sl .int), .d (.sl .int)]), (true, [.d (.bool), .d (.sl .int), .d (.sl .int)])], [], false, [(true, [.d (.bool), .own 0, .own 1])], [(0, .arr false .int), (1, .arr false .int)]⟩
noncomputable def c_q83 : Con := ⟨sg_q83, Rt, fun x => M_impl_sub (⟨x.1, x.2.1, x.2.2.1⟩ : Rt) (⟨x.2.2.2.1, x.2.2.2.2.1, x.2.2.2.2.2.1⟩ : Rt), fun r => (r.neg, r.mag, r.den, ())⟩
noncomputable def code_q83 : Code := Tryz.f85.body.getD .skip
noncomputable def E_q83 : Env := ⟨layD, [(115, c_q78), (143, c_q82)], [], [(1, [(0, []), (1, []), (2, [1]), (3, [0, 2, 1]), (4, [3, 0, 1, 2])])]⟩
theorem cons_q83 : ConsOk Tryz.prog E_q83.cons := consOk_cons m_q78 (callable_of Tryz.func115 (by kernel_rfl)) (consOk_cons m_q82 (callable_of Tryz.func143 (by kernel_rfl)) (consOk_nil))
theorem loops_q83 : loopsIn code_q83 = [] := by kernel_rfl
theorem m_q83 : Meets Tryz.prog 85 c_q83 := meets_of (E := E_q83) (code := code_q83) mix layD_ok cons_q83 Tryz.func85 (by kernel_rfl) sg_q83 (by kernel_rfl) (fun y => (⟨y.1, y.2.1, y.2.2.1⟩ : Rt)) c_q83.out (fun _ => rfl) c_q83.run (fun x => by kernel_rfl) (by kernel_rfl) (loops_mem loops_q83 (trivial))
noncomputable def sg_q84 : Sig := ⟨[(true, [.d (.int .i64), .d (.int .i64), .d (.sl .rat)])], [], true, [(true, [.d (.int .i64), .d (.int .i64), .d (.sl .rat), .d (.sl .int), .d (.sl .rat)]), (false, [.d (.bool)])], []⟩
noncomputable def c_q84 : Con := ⟨sg_q84, Rdn × Bool, fun x => M_impl_reduce (⟨x.1, x.2.1, x.2.2.1⟩ : Mx), fun r => (r.1.rows, r.1.cols, r.1.cells, r.1.pivots, r.1.factors, r.2, ())⟩
noncomputable def code_q84 : Code := Tryz.f66.body.getD .skip
noncomputable def body_q84_0 : Code := (loopsIn code_q84).getD 0 .skip
noncomputable def body_q84_1 : Code := (loopsIn body_q84_0).getD 0 .skip
noncomputable def body_q84_2 : Code := (loopsIn body_q84_0).getD 1 .skip
noncomputable def body_q84_3 : Code := (loopsIn body_q84_0).getD 2 .skip
noncomputable def body_q84_4 : Code := (loopsIn body_q84_0).getD 3 .skip
noncomputable def body_q84_5 : Code := (loopsIn body_q84_4).getD 0 .skip
noncomputable def D_q84_0 : LoopD := ⟨⟨mkSlots [(2, false, [.lp 128 0]), (4, false, [.lp 256 0]), (5, false, [.lp 320 0]), (6, false, [.d (.int .i64)]), (7, false, [.d (.int .i64)])] 183 0, [(128, .box [.d (.int .i64), .d (.int .i64), .d (.sl .rat), .d (.sl .int), .d (.sl .rat)]), (256, .box [.d (.int .i64), .d (.int .i64), .own 11776, .own 11840, .own 11904]), (320, .box [.d (.int .i64), .d (.int .i64), .own 11776]), (11776, .arr false .rat), (11840, .arr false .int), (11904, .arr false .rat)]⟩, [(.box 256 3, 11840, .int), (.box 256 4, 11904, .rat)], [(.ret, ⟨mkSlots [(2, false, [.lp 128 0]), (3, false, [.d (.bool)])] 183 0, [(128, .box [.d (.int .i64), .d (.int .i64), .d (.sl .rat), .d (.sl .int), .d (.sl .rat)])]⟩, []), (.exit 0, ⟨mkSlots [(2, false, [.lp 128 0]), (4, false, [.lp 256 0])] 183 0, [(128, .box [.d (.int .i64), .d (.int .i64), .d (.sl .rat), .d (.sl .int), .d (.sl .rat)]), (256, .box [.d (.int .i64), .d (.int .i64), .own 11776, .own 11840, .own 11904]), (11776, .arr false .rat), (11840, .arr false .int), (11904, .arr false .rat)]⟩, [(.box 256 3, 11840, .int), (.box 256 4, 11904, .rat)])]⟩
noncomputable def D_q84_1 : LoopD := ⟨⟨mkSlots [(2, false, [.lp 128 0]), (4, false, [.lp 256 0]), (5, false, [.lp 320 0]), (6, false, [.d (.int .i64)]), (7, false, [.d (.int .i64)]), (8, false, [.d (.int .i64)])] 183 0, [(128, .box [.d (.int .i64), .d (.int .i64), .d (.sl .rat), .d (.sl .int), .d (.sl .rat)]), (256, .box [.d (.int .i64), .d (.int .i64), .own 11776, .own 11840, .own 11904]), (320, .box [.d (.int .i64), .d (.int .i64), .own 11776]), (11776, .arr false .rat), (11840, .arr false .int), (11904, .arr false .rat)]⟩, [(.box 256 3, 11840, .int), (.box 256 4, 11904, .rat)], [(.exit 2, ⟨mkSlots [(2, false, [.lp 128 0]), (4, false, [.lp 256 0]), (5, false, [.lp 320 0]), (6, false, [.d (.int .i64)]), (7, false, [.d (.int .i64)]), (8, false, [.d (.int .i64)])] 183 0, [(128, .box [.d (.int .i64), .d (.int .i64), .d (.sl .rat), .d (.sl .int), .d (.sl .rat)]), (256, .box [.d (.int .i64), .d (.int .i64), .own 11776, .own 11840, .own 11904]), (320, .box [.d (.int .i64), .d (.int .i64), .own 11776]), (11776, .arr false .rat), (11840, .arr false .int), (11904, .arr false .rat)]⟩, [(.box 256 3, 11840, .int), (.box 256 4, 11904, .rat)])]⟩
noncomputable def D_q84_2 : LoopD := ⟨⟨mkSlots [(2, false, [.lp 128 0]), (4, false, [.lp 256 0]), (5, false, [.lp 320 0]), (6, false, [.d (.int .i64)]), (7, false, [.d (.int .i64)]), (9, false, [.win 11776]), (10, false, [.win 11776]), (76, false, [.d (.int .i64)]), (77, false, [.d (.int .i64)])] 183 0, [(128, .box [.d (.int .i64), .d (.int .i64), .d (.sl .rat), .d (.sl .int), .d (.sl .rat)]), (256, .box [.d (.int .i64), .d (.int .i64), .own 11776, .own 11904, .own 11840]), (320, .box [.d (.int .i64), .d (.int .i64), .own 11776]), (11776, .arr false .rat), (11840, .arr false .rat), (11904, .arr false .int)]⟩, [(.box 256 3, 11904, .int)], [(.exit 4, ⟨mkSlots [(2, false, [.lp 128 0]), (4, false, [.lp 256 0]), (5, false, [.lp 320 0]), (6, false, [.d (.int .i64)]), (7, false, [.d (.int .i64)])] 183 0, [(128, .box [.d (.int .i64), .d (.int .i64), .d (.sl .rat), .d (.sl .int), .d (.sl .rat)]), (256, .box [.d (.int .i64), .d (.int .i64), .own 11776, .own 11904, .own 11840]), (320, .box [.d (.int .i64), .d (.int .i64), .own 11776]), (11776, .arr false .rat), (11840, .arr false .rat), (11904, .arr false .int)]⟩, [(.box 256 3, 11904, .int)])]⟩
noncomputable def D_q84_3 : LoopD := ⟨⟨mkSlots [(2, false, [.lp 128 0]), (4, false, [.lp 256 0]), (5, false, [.lp 320 0]), (6, false, [.d (.int .i64)]), (7, false, [.d (.int .i64)]), (12, false, [.win 11776]), (13, false, [.lp 832 0]), (109, false, [.d (.int .i64)]), (110, false, [.d (.int .i64)])] 183 0, [(128, .box [.d (.int .i64), .d (.int .i64), .d (.sl .rat), .d (.sl .int), .d (.sl .rat)]), (256, .box [.d (.int .i64), .d (.int .i64), .own 11776, .own 11904, .own 11840]), (320, .box [.d (.int .i64), .d (.int .i64), .own 11776]), (832, .box [.d (.bool), .d (.sl .int), .d (.sl .int)]), (11776, .arr false .rat), (11840, .arr false .rat), (11904, .arr false .int)]⟩, [(.box 256 3, 11904, .int)], [(.exit 6, ⟨mkSlots [(2, false, [.lp 128 0]), (4, false, [.lp 256 0]), (5, false, [.lp 320 0]), (6, false, [.d (.int .i64)]), (7, false, [.d (.int .i64)]), (12, false, [.win 11776])] 183 0, [(128, .box [.d (.int .i64), .d (.int .i64), .d (.sl .rat), .d (.sl .int), .d (.sl .rat)]), (256, .box [.d (.int .i64), .d (.int .i64), .own 11776, .own 11904, .own 11840]), (320, .box [.d (.int .i64), .d (.int .i64), .own 11776]), (11776, .arr false .rat), (11840, .arr false .rat), (11904, .arr false .int)]⟩, [(.box 256 3, 11904, .int)])]⟩
noncomputable def D_q84_4 : LoopD := ⟨⟨mkSlots [(2, false, [.lp 128 0]), (4, false, [.lp 256 0]), (5, false, [.lp 320 0]), (6, false, [.d (.int .i64)]), (7, false, [.d (.int .i64)]), (12, false, [.win 11776]), (128, false, [.d (.int .i64)]), (129, false, [.d (.int .i64)])] 183 0, [(128, .box [.d (.int .i64), .d (.int .i64), .d (.sl .rat), .d (.sl .int), .d (.sl .rat)]), (256, .box [.d (.int .i64), .d (.int .i64), .own 11776, .own 11904, .own 11840]), (320, .box [.d (.int .i64), .d (.int .i64), .own 11776]), (11776, .arr false .rat), (11840, .arr false .rat), (11904, .arr false .int)]⟩, [(.box 256 3, 11904, .int)], [(.ret, ⟨mkSlots [(2, false, [.lp 128 0]), (3, false, [.d (.bool)])] 183 0, [(128, .box [.d (.int .i64), .d (.int .i64), .d (.sl .rat), .d (.sl .int), .d (.sl .rat)])]⟩, []), (.exit 8, ⟨mkSlots [(2, false, [.lp 128 0]), (4, false, [.lp 256 0]), (5, false, [.lp 320 0]), (6, false, [.d (.int .i64)]), (7, false, [.d (.int .i64)])] 183 0, [(128, .box [.d (.int .i64), .d (.int .i64), .d (.sl .rat), .d (.sl .int), .d (.sl .rat)]), (256, .box [.d (.int .i64), .d (.int .i64), .own 11776, .own 11904, .own 11840]), (320, .box [.d (.int .i64), .d (.int .i64), .own 11776]), (11776, .arr false .rat), (11840, .arr false .rat), (11904, .arr false .int)]⟩, [(.box 256 3, 11904, .int)])]⟩
noncomputable def D_q84_5 : LoopD := ⟨⟨mkSlots [(2, false, [.lp 128 0]), (4, false, [.lp 256 0]), (5, false, [.lp 320 0]), (6, false, [.d (.int .i64)]), (7, false, [.d (.int .i64)]), (12, false, [.win 11776]), (16, false, [.win 11776]), (17, false, [.lp 1088 0]), (128, false, [.d (.int .i64)]), (129, false, [.d (.int .i64)]), (150, false, [.d (.int .i64)]), (151, false, [.d (.int .i64)])] 183 0, [(128, .box [.d (.int .i64), .d (.int .i64), .d (.sl .rat), .d (.sl .int), .d (.sl .rat)]), (256, .box [.d (.int .i64), .d (.int .i64), .own 11776, .own 11904, .own 11840]), (320, .box [.d (.int .i64), .d (.int .i64), .own 11776]), (1088, .box [.d (.bool), .d (.sl .int), .d (.sl .int)]), (11776, .arr false .rat), (11840, .arr false .rat), (11904, .arr false .int)]⟩, [(.box 256 3, 11904, .int)], [(.exit 10, ⟨mkSlots [(2, false, [.lp 128 0]), (4, false, [.lp 256 0]), (5, false, [.lp 320 0]), (6, false, [.d (.int .i64)]), (7, false, [.d (.int .i64)]), (12, false, [.win 11776]), (16, false, [.win 11776]), (128, false, [.d (.int .i64)]), (129, false, [.d (.int .i64)])] 183 0, [(128, .box [.d (.int .i64), .d (.int .i64), .d (.sl .rat), .d (.sl .int), .d (.sl .rat)]), (256, .box [.d (.int .i64), .d (.int .i64), .own 11776, .own 11904, .own 11840]), (320, .box [.d (.int .i64), .d (.int .i64), .own 11776]), (11776, .arr false .rat), (11840, .arr false .rat), (11904, .arr false .int)]⟩, [(.box 256 3, 11904, .int)])]⟩
noncomputable def S_q84_0_w (x : Tys D_q84_0.head.ks) : Option (OutT D_q84_0.outs) := @whileO (Int × Int × Int × Int × (List Rt) × (List Int) × (List Rt) × Int × Int × Int × Int × (List Rt) × (List Int) × (List Rt) × Unit) ((Bool × Int × Int × (List Rt) × (List Int) × (List Rt) × Unit) ⊕ (Int × Int × (List Rt) × (List Int) × (List Rt) × Int × Int × (List Rt) × (List Int) × (List Rt) × Unit)) S_impl_reduce_0 x
noncomputable def S_q84_1_w (x : Tys D_q84_1.head.ks) : Option (OutT D_q84_1.outs) := @whileO (Int × Int × Int × Int × Int × (List Rt) × (List Int) × (List Rt) × Int × Int × Int × Int × (List Rt) × (List Int) × (List Rt) × Unit) (Int × Int × Int × Int × Int × (List Rt) × (List Int) × (List Rt) × Int × Int × Int × Int × (List Rt) × (List Int) × (List Rt) × Unit) S_impl_reduce_1 x
noncomputable def S_q84_2_w (x : Tys D_q84_2.head.ks) : Option (OutT D_q84_2.outs) := @whileO (Int × Int × Nat × Nat × Nat × Nat × Int × Int × Int × Int × (List Rt) × (List Int) × (List Rt) × Int × Int × Int × Int × (List Rt) × (List Rt) × (List Int) × Unit) (Int × Int × Int × Int × (List Rt) × (List Int) × (List Rt) × Int × Int × Int × Int × (List Rt) × (List Rt) × (List Int) × Unit) S_impl_reduce_2 x
noncomputable def S_q84_3_w (x : Tys D_q84_3.head.ks) : Option (OutT D_q84_3.outs) := @whileO (Int × Int × Nat × Nat × Int × Int × Int × Int × (List Rt) × (List Int) × (List Rt) × Int × Int × Int × Int × Bool × (List Int) × (List Int) × (List Rt) × (List Rt) × (List Int) × Unit) (Int × Int × Nat × Nat × Int × Int × (List Rt) × (List Int) × (List Rt) × Int × Int × Int × Int × (List Rt) × (List Rt) × (List Int) × Unit) S_impl_reduce_3 x
noncomputable def S_q84_4_w (x : Tys D_q84_4.head.ks) : Option (OutT D_q84_4.outs) := @whileO (Int × Int × Nat × Nat × Int × Int × Int × Int × (List Rt) × (List Int) × (List Rt) × Int × Int × Int × Int × (List Rt) × (List Rt) × (List Int) × Unit) ((Bool × Int × Int × (List Rt) × (List Int) × (List Rt) × Unit) ⊕ (Int × Int × Int × Int × (List Rt) × (List Int) × (List Rt) × Int × Int × Int × Int × (List Rt) × (List Rt) × (List Int) × Unit)) S_impl_reduce_4 x
noncomputable def S_q84_5_w (x : Tys D_q84_5.head.ks) : Option (OutT D_q84_5.outs) := @whileO (Int × Int × Nat × Nat × Nat × Nat × Int × Int × Int × Int × Int × Int × (List Rt) × (List Int) × (List Rt) × Int × Int × Int × Int × Bool × (List Int) × (List Int) × (List Rt) × (List Rt) × (List Int) × Unit) (Int × Int × Nat × Nat × Nat × Nat × Int × Int × Int × Int × (List Rt) × (List Int) × (List Rt) × Int × Int × Int × Int × (List Rt) × (List Rt) × (List Int) × Unit) S_impl_reduce_5 x
noncomputable def E_q84 : Env := ⟨lay, [(120, c_q68), (72, c_q69), (121, c_q66), (67, c_q57), (122, c_q70), (87, c_q75), (123, c_q76), (68, c_q74), (85, c_q83)], [(5, mkLM D_q84_0 S_q84_0_w), (8, mkLM D_q84_1 S_q84_1_w), (15, mkLM D_q84_2 S_q84_2_w), (23, mkLM D_q84_3 S_q84_3_w), (30, mkLM D_q84_4 S_q84_4_w), (36, mkLM D_q84_5 S_q84_5_w)], [(1, [(0, []), (1, []), (2, []), (3, []), (4, []), (5, []), (6, [5, 4]), (7, []), (8, []), (9, []), (10, [9, 8, 6, 0, 1, 2, 3, 4, 5, 7])]), (12, [(0, []), (1, []), (2, []), (3, [2]), (4, [1, 3, 2, 0]), (5, []), (6, [5, 4, 0, 1, 2, 3])]), (13, [(0, []), (1, []), (3, []), (4, []), (2, [0, 1]), (5, [3, 4, 2, 0, 1]), (6, [2, 5, 0, 1, 3, 4]), (7, [5, 6, 0, 1, 2, 3, 4])]), (17, [(0, []), (1, []), (2, []), (3, []), (4, []), (5, []), (6, []), (7, []), (8, []), (9, []), (10, []), (11, []), (12, []), (13, [12, 7, 0, 1, 4, 5, 6, 11, 10, 8, 9]), (14, []), (15, [14, 11, 13, 0, 1, 2, 3, 4, 5, 6, 7, 8, 9, 10, 12])]), (25, [(0, []), (1, []), (2, []), (3, []), (4, []), (5, []), (6, []), (7, [5, 6, 4, 2, 3]), (8, []), (9, [8, 7, 0, 1, 2, 3, 4, 5, 6])]), (38, [(0, []), (1, []), (2, []), (3, []), (4, []), (5, []), (6, []), (7, []), (8, []), (9, []), (10, []), (11, [6, 10, 9, 7, 8]), (12, [5, 11, 4, 6, 10, 2, 3, 9, 7, 8]), (13, []), (14, [13, 12, 0, 1, 2, 3, 4, 5, 6, 7, 8, 9, 10, 11])])]⟩
theorem cons_q84 : ConsOk Tryz.prog E_q84.cons := consOk_cons m_q68 (callable_of Tryz.func120 (by kernel_rfl)) (consOk_cons m_q69 (callable_of Tryz.func72 (by kernel_rfl)) (consOk_cons m_q66 (callable_of Tryz.func121 (by kernel_rfl)) (consOk_cons m_q57 (callable_of Tryz.func67 (by kernel_rfl)) (consOk_cons m_q70 (callable_of Tryz.func122 (by kernel_rfl)) (consOk_cons m_q75 (callable_of Tryz.func87 (by kernel_rfl)) (consOk_cons m_q76 (callable_of Tryz.func123 (by kernel_rfl)) (consOk_cons m_q74 (callable_of Tryz.func68 (by kernel_rfl)) (consOk_cons m_q83 (callable_of Tryz.func85 (by kernel_rfl)) (consOk_nil)))))))))
theorem S_q84_5_ok (x : Tys D_q84_5.head.ks) : stepL E_q84 D_q84_5 body_q84_5 x = S_impl_reduce_5 x := by kernel_rfl
theorem loops_q84_5 : loopsIn body_q84_5 = [] := by kernel_rfl
theorem l_q84_5 : LoopOk Tryz.prog (mkLM D_q84_5 S_q84_5_w) body_q84_5 := loop_ok2 mix lay_ok cons_q84 (by kernel_rfl) (loops_mem loops_q84_5 (trivial)) S_q84_5_ok fun _ _ h => h
theorem S_q84_4_ok (x : Tys D_q84_4.head.ks) : stepL E_q84 D_q84_4 body_q84_4 x = S_impl_reduce_4 x := by kernel_rfl
theorem loops_q84_4 : loopsIn body_q84_4 = [body_q84_5] := by kernel_rfl
theorem l_q84_4 : LoopOk Tryz.prog (mkLM D_q84_4 S_q84_4_w) body_q84_4 := loop_ok2 mix lay_ok cons_q84 (by kernel_rfl) (loops_mem loops_q84_4 (⟨⟨_, by kernel_rfl, l_q84_5⟩, trivial⟩)) S_q84_4_ok fun _ _ h => h
theorem S_q84_3_ok (x : Tys D_q84_3.head.ks) : stepL E_q84 D_q84_3 body_q84_3 x = S_impl_reduce_3 x := by kernel_rfl
theorem loops_q84_3 : loopsIn body_q84_3 = [] := by kernel_rfl
theorem l_q84_3 : LoopOk Tryz.prog (mkLM D_q84_3 S_q84_3_w) body_q84_3 := loop_ok2 mix lay_ok cons_q84 (by kernel_rfl) (loops_mem loops_q84_3 (trivial)) S_q84_3_ok fun _ _ h => h
theorem S_q84_2_ok (x : Tys D_q84_2.head.ks) : stepL E_q84 D_q84_2 body_q84_2 x = S_impl_reduce_2 x := by kernel_rfl
theorem loops_q84_2 : loopsIn body_q84_2 = [] := by kernel_rfl
theorem l_q84_2 : LoopOk Tryz.prog (mkLM D_q84_2 S_q84_2_w) body_q84_2 := loop_ok2 mix lay_ok cons_q84 (by kernel_rfl) (loops_mem loops_q84_2 (trivial)) S_q84_2_ok fun _ _ h => h
theorem S_q84_1_ok (x : Tys D_q84_1.head.ks) : stepL E_q84 D_q84_1 body_q84_1 x = S_impl_reduce_1 x := by kernel_rfl
theorem loops_q84_1 : loopsIn body_q84_1 = [] := by kernel_rfl
theorem l_q84_1 : LoopOk Tryz.prog (mkLM D_q84_1 S_q84_1_w) body_q84_1 := loop_ok2 mix lay_ok cons_q84 (by kernel_rfl) (loops_mem loops_q84_1 (trivial)) S_q84_1_ok fun _ _ h => h
theorem S_q84_0_ok (x : Tys D_q84_0.head.ks) : stepL E_q84 D_q84_0 body_q84_0 x = S_impl_reduce_0 x := by kernel_rfl
theorem loops_q84_0 : loopsIn body_q84_0 = [body_q84_1, body_q84_2, body_q84_3, body_q84_4] := by kernel_rfl
theorem l_q84_0 : LoopOk Tryz.prog (mkLM D_q84_0 S_q84_0_w) body_q84_0 := loop_ok2 mix lay_ok cons_q84 (by kernel_rfl) (loops_mem loops_q84_0 (⟨⟨_, by kernel_rfl, l_q84_1⟩, ⟨⟨_, by kernel_rfl, l_q84_2⟩, ⟨⟨_, by kernel_rfl, l_q84_3⟩, ⟨⟨_, by kernel_rfl, l_q84_4⟩, trivial⟩⟩⟩⟩)) S_q84_0_ok fun _ _ h => h
theorem loops_q84 : loopsIn code_q84 = [body_q84_0] := by kernel_rfl
theorem m_q84 : Meets Tryz.prog 66 c_q84 := meets_of (E := E_q84) (code := code_q84) mix lay_ok cons_q84 Tryz.func66 (by kernel_rfl) sg_q84 (by kernel_rfl) (fun y => ((⟨y.1, y.2.1, y.2.2.1, y.2.2.2.1, y.2.2.2.2.1⟩ : Rdn), y.2.2.2.2.2.1)) c_q84.out (fun _ => rfl) c_q84.run (fun x => by kernel_rfl) (by kernel_rfl) (loops_mem loops_q84 (⟨⟨_, by kernel_rfl, l_q84_0⟩, trivial⟩))
noncomputable def sg_q85 : Sig := ⟨[(false, [.d (.sl .int)]), (false, [.d (.int .i64)])], [], false, [(false, [.d (.bool)])], []⟩
noncomputable def c_q85 : Con := ⟨sg_q85, Bool, fun x => M_impl_leading x.1 x.2.1, fun r => (r, ())⟩
noncomputable def code_q85 : Code := Tryz.f118.body.getD .skip
noncomputable def body_q85_0 : Code := (loopsIn code_q85).getD 0 .skip
noncomputable def D_q85_0 : LoopD := ⟨⟨mkSlots [(0, false, [.d (.sl .int)]), (6, false, [.d (.int .i64)]), (7, false, [.d (.int .i64)])] 23 0, []⟩, [], [(.ret, ⟨mkSlots [(4, false, [.d (.bool)])] 23 0, []⟩, []), (.exit 0, ⟨mkSlots [] 23 0, []⟩, [])]⟩
noncomputable def S_q85_0_w (x : Tys D_q85_0.head.ks) : Option (OutT D_q85_0.outs) := @whileO ((List Int) × Int × Int × Unit) ((Bool × Unit) ⊕ (Unit)) S_impl_leading_0 x
noncomputable def E_q85 : Env := ⟨layD, [], [(2, mkLM D_q85_0 S_q85_0_w)], []⟩
theorem cons_q85 : ConsOk Tryz.prog E_q85.cons := consOk_nil
theorem S_q85_0_ok (x : Tys D_q85_0.head.ks) : stepL E_q85 D_q85_0 body_q85_0 x = S_impl_leading_0 x := by kernel_rfl
theorem loops_q85_0 : loopsIn body_q85_0 = [] := by kernel_rfl
theorem l_q85_0 : LoopOk Tryz.prog (mkLM D_q85_0 S_q85_0_w) body_q85_0 := loop_ok2 mix layD_ok cons_q85 (by kernel_rfl) (loops_mem loops_q85_0 (trivial)) S_q85_0_ok fun _ _ h => h
theorem loops_q85 : loopsIn code_q85 = [body_q85_0] := by kernel_rfl
theorem m_q85 : Meets Tryz.prog 118 c_q85 := meets_of (E := E_q85) (code := code_q85) mix layD_ok cons_q85 Tryz.func118 (by kernel_rfl) sg_q85 (by kernel_rfl) (fun y => y.1) c_q85.out (fun _ => rfl) c_q85.run (fun x => by kernel_rfl) (by kernel_rfl) (loops_mem loops_q85 (⟨⟨_, by kernel_rfl, l_q85_0⟩, trivial⟩))
noncomputable def sg_q86 : Sig := ⟨[(false, [.d (.int .i64)]), (false, [.d (.int .i64)]), (false, [.sp [.int .i64, .int .i64, .sl .rat, .sl .int, .sl .rat]]), (false, [.sp [.int .i64, .int .i64, .sl .rat]])], [], false, [(true, [.d (.bool), .d (.sl .int), .d (.sl .int)])], []⟩
noncomputable def c_q86 : Con := ⟨sg_q86, Rt, fun x => M_impl_inverted_c1 x.1 x.2.1 (⟨x.2.2.1, x.2.2.2.1, x.2.2.2.2.1, x.2.2.2.2.2.1, x.2.2.2.2.2.2.1⟩ : Rdn) (⟨x.2.2.2.2.2.2.2.1, x.2.2.2.2.2.2.2.2.1, x.2.2.2.2.2.2.2.2.2.1⟩ : Mx), fun r => (r.neg, r.mag, r.den, ())⟩
noncomputable def code_q86 : Code := Tryz.f119.body.getD .skip
noncomputable def E_q86 : Env := ⟨layD, [(72, c_q61)], [], []⟩
theorem cons_q86 : ConsOk Tryz.prog E_q86.cons := consOk_cons m_q61 (callable_of Tryz.func72 (by kernel_rfl)) (consOk_nil)
theorem loops_q86 : loopsIn code_q86 = [] := by kernel_rfl
theorem m_q86 : Meets Tryz.prog 119 c_q86 := meets_of (E := E_q86) (code := code_q86) mix layD_ok cons_q86 Tryz.func119 (by kernel_rfl) sg_q86 (by kernel_rfl) (fun y => (⟨y.1, y.2.1, y.2.2.1⟩ : Rt)) c_q86.out (fun _ => rfl) c_q86.run (fun x => by kernel_rfl) (by kernel_rfl) (loops_mem loops_q86 (trivial))
noncomputable def sg_q87 : Sig := ⟨[(false, [.d (.int .i64)]), (false, [.d (.int .i64)]), (false, [.fn 119 [[.int .i64, .int .i64, .sl .rat, .sl .int, .sl .rat], [.int .i64, .int .i64, .sl .rat]]])], [], false, [(true, [.d (.int .i64), .d (.int .i64), .own 0])], [(0, .arr false .rat)]⟩
noncomputable def c_q87 : Con := ⟨sg_q87, Mx, fun x => M_impl_built__impl_inverted_c1 x.1 x.2.1 (⟨x.2.2.1, x.2.2.2.1, x.2.2.2.2.1, x.2.2.2.2.2.1, x.2.2.2.2.2.2.1⟩ : Rdn) (⟨x.2.2.2.2.2.2.2.1, x.2.2.2.2.2.2.2.2.1, x.2.2.2.2.2.2.2.2.2.1⟩ : Mx), fun r => (r.rows, r.cols, r.cells, ())⟩
noncomputable def code_q87 : Code := Tryz.f76.body.getD .skip
noncomputable def body_q87_0 : Code := (loopsIn code_q87).getD 0 .skip
noncomputable def body_q87_1 : Code := (loopsIn body_q87_0).getD 0 .skip
noncomputable def D_q87_0 : LoopD := ⟨⟨mkSlots [(1, false, [.d (.int .i64)]), (2, false, [.fn 119 [[.int .i64, .int .i64, .sl .rat, .sl .int, .sl .rat], [.int .i64, .int .i64, .sl .rat]]]), (6, false, [.lp 384 0]), (7, false, [.lp 448 0]), (13, false, [.d (.int .i64)]), (14, false, [.d (.int .i64)])] 33 0, [(384, .box [.d (.int .i64), .d (.int .i64), .d (.sl .rat)]), (448, .box [.d (.int .i64), .d (.int .i64), .own 2176]), (2176, .arr false .rat)]⟩, [(.box 448 2, 2176, .rat)], [(.exit 0, ⟨mkSlots [(6, false, [.lp 384 0]), (7, false, [.lp 448 0])] 33 0, [(384, .box [.d (.int .i64), .d (.int .i64), .d (.sl .rat)]), (448, .box [.d (.int .i64), .d (.int .i64), .own 2176]), (2176, .arr false .rat)]⟩, [(.box 448 2, 2176, .rat)])]⟩
noncomputable def D_q87_1 : LoopD := ⟨⟨mkSlots [(1, false, [.d (.int .i64)]), (2, false, [.fn 119 [[.int .i64, .int .i64, .sl .rat, .sl .int, .sl .rat], [.int .i64, .int .i64, .sl .rat]]]), (6, false, [.lp 384 0]), (7, false, [.lp 448 0]), (8, false, [.d (.int .i64)]), (13, false, [.d (.int .i64)]), (14, false, [.d (.int .i64)]), (17, false, [.d (.int .i64)]), (18, false, [.d (.int .i64)])] 33 0, [(384, .box [.d (.int .i64), .d (.int .i64), .d (.sl .rat)]), (448, .box [.d (.int .i64), .d (.int .i64), .own 2176]), (2176, .arr false .rat)]⟩, [(.box 448 2, 2176, .rat)], [(.exit 2, ⟨mkSlots [(1, false, [.d (.int .i64)]), (2, false, [.fn 119 [[.int .i64, .int .i64, .sl .rat, .sl .int, .sl .rat], [.int .i64, .int .i64, .sl .rat]]]), (6, false, [.lp 384 0]), (7, false, [.lp 448 0]), (13, false, [.d (.int .i64)]), (14, false, [.d (.int .i64)])] 33 0, [(384, .box [.d (.int .i64), .d (.int .i64), .d (.sl .rat)]), (448, .box [.d (.int .i64), .d (.int .i64), .own 2176]), (2176, .arr false .rat)]⟩, [(.box 448 2, 2176, .rat)])]⟩
noncomputable def S_q87_0_w (x : Tys D_q87_0.head.ks) : Option (OutT D_q87_0.outs) := @whileO (Int × Int × Int × (List Rt) × (List Int) × (List Rt) × Int × Int × (List Rt) × Int × Int × Int × Int × (List Rt) × Int × Int × (List Rt) × Unit) (Int × Int × (List Rt) × Int × Int × (List Rt) × Unit) S_impl_built__impl_inverted_c1_0 x
noncomputable def S_q87_1_w (x : Tys D_q87_1.head.ks) : Option (OutT D_q87_1.outs) := @whileO (Int × Int × Int × (List Rt) × (List Int) × (List Rt) × Int × Int × (List Rt) × Int × Int × Int × Int × Int × Int × Int × (List Rt) × Int × Int × (List Rt) × Unit) (Int × Int × Int × (List Rt) × (List Int) × (List Rt) × Int × Int × (List Rt) × Int × Int × Int × Int × (List Rt) × Int × Int × (List Rt) × Unit) S_impl_built__impl_inverted_c1_1 x
noncomputable def E_q87 : Env := ⟨lay, [(119, c_q86)], [(3, mkLM D_q87_0 S_q87_0_w), (6, mkLM D_q87_1 S_q87_1_w)], [(8, [(0, []), (1, []), (2, []), (3, []), (4, []), (5, [2, 3, 4]), (6, [5, 2, 3, 4]), (7, [1, 6, 5, 0, 2, 3, 4]), (8, []), (9, [8, 7, 0, 1, 2, 3, 4, 5, 6])])]⟩
theorem cons_q87 : ConsOk Tryz.prog E_q87.cons := consOk_cons m_q86 (callable_of Tryz.func119 (by kernel_rfl)) (consOk_nil)
theorem S_q87_1_ok (x : Tys D_q87_1.head.ks) : stepL E_q87 D_q87_1 body_q87_1 x = S_impl_built__impl_inverted_c1_1 x := by kernel_rfl
theorem loops_q87_1 : loopsIn body_q87_1 = [] := by kernel_rfl
theorem l_q87_1 : LoopOk Tryz.prog (mkLM D_q87_1 S_q87_1_w) body_q87_1 := loop_ok2 mix lay_ok cons_q87 (by kernel_rfl) (loops_mem loops_q87_1 (trivial)) S_q87_1_ok fun _ _ h => h
theorem S_q87_0_ok (x : Tys D_q87_0.head.ks) : stepL E_q87 D_q87_0 body_q87_0 x = S_impl_built__impl_inverted_c1_0 x := by kernel_rfl
theorem loops_q87_0 : loopsIn body_q87_0 = [body_q87_1] := by kernel_rfl
theorem l_q87_0 : LoopOk Tryz.prog (mkLM D_q87_0 S_q87_0_w) body_q87_0 := loop_ok2 mix lay_ok cons_q87 (by kernel_rfl) (loops_mem loops_q87_0 (⟨⟨_, by kernel_rfl, l_q87_1⟩, trivial⟩)) S_q87_0_ok fun _ _ h => h
theorem loops_q87 : loopsIn code_q87 = [body_q87_0] := by kernel_rfl
theorem m_q87 : Meets Tryz.prog 76 c_q87 := meets_of (E := E_q87) (code := code_q87) mix lay_ok cons_q87 Tryz.func76 (by kernel_rfl) sg_q87 (by kernel_rfl) (fun y => (⟨y.1, y.2.1, y.2.2.1⟩ : Mx)) c_q87.out (fun _ => rfl) c_q87.run (fun x => by kernel_rfl) (by kernel_rfl) (loops_mem loops_q87 (⟨⟨_, by kernel_rfl, l_q87_0⟩, trivial⟩))
noncomputable def sg_q88 : Sig := ⟨[(true, [.d (.int .i64), .d (.int .i64), .d (.sl .rat)])], [], true, [(true, [.d (.int .i64), .d (.int .i64), .own 0]), (false, [.d (.bool)]), (false, [.d (.bool)])], [(0, .arr false .rat)]⟩
noncomputable def c_q88 : Con := ⟨sg_q88, Mx × Bool × Bool, fun x => M_impl_inverted (⟨x.1, x.2.1, x.2.2.1⟩ : Mx), fun r => (r.1.rows, r.1.cols, r.2.1, r.2.2, r.1.cells, ())⟩
noncomputable def code_q88 : Code := Tryz.f65.body.getD .skip
noncomputable def E_q88 : Env := ⟨layD, [(83, c_q60), (71, c_q64), (66, c_q84), (118, c_q85), (76, c_q87)], [], [(1, [(0, []), (1, []), (2, []), (3, [2, 1]), (4, [0, 3, 2, 1]), (5, [4, 0, 3, 2, 1]), (6, []), (7, []), (8, []), (9, []), (10, [9, 7, 5, 0, 1, 2, 3, 4, 6]), (11, [8, 10, 0, 1, 2, 3, 4, 5, 6, 7, 9])])]⟩
theorem cons_q88 : ConsOk Tryz.prog E_q88.cons := consOk_cons m_q60 (callable_of Tryz.func83 (by kernel_rfl)) (consOk_cons m_q64 (callable_of Tryz.func71 (by kernel_rfl)) (consOk_cons m_q84 (callable_of Tryz.func66 (by kernel_rfl)) (consOk_cons m_q85 (callable_of Tryz.func118 (by kernel_rfl)) (consOk_cons m_q87 (callable_of Tryz.func76 (by kernel_rfl)) (consOk_nil)))))
theorem loops_q88 : loopsIn code_q88 = [] := by kernel_rfl
theorem m_q88 : Meets Tryz.prog 65 c_q88 := meets_of (E := E_q88) (code := code_q88) mix layD_ok cons_q88 Tryz.func65 (by kernel_rfl) sg_q88 (by kernel_rfl) (fun y => ((⟨y.1, y.2.1, y.2.2.2.2.1⟩ : Mx), y.2.2.1, y.2.2.2.1)) c_q88.out (fun _ => rfl) c_q88.run (fun x => by kernel_rfl) (by kernel_rfl) (loops_mem loops_q88 (trivial))
noncomputable def sg_q89 : Sig := ⟨[(true, [.d (.int .i64), .d (.int .i64), .d (.sl .rat)])], [], true, [(true, [.d (.int .i64), .d (.int .i64), .own 0]), (false, [.d (.bool)])], [(0, .arr false .rat)]⟩
noncomputable def c_q89 : Con := ⟨sg_q89, Mx × Bool, fun x => M_impl_Inverse (⟨x.1, x.2.1, x.2.2.1⟩ : Mx), fun r => (r.1.rows, r.1.cols, r.2, r.1.cells, ())⟩
noncomputable def code_q89 : Code := Tryz.f14.body.getD .skip
noncomputable def E_q89 : Env := ⟨layD, [(64, c_q47), (65, c_q88)], [], []⟩
theorem cons_q89 : ConsOk Tryz.prog E_q89.cons := consOk_cons m_q47 (callable_of Tryz.func64 (by kernel_rfl)) (consOk_cons m_q88 (callable_of Tryz.func65 (by kernel_rfl)) (consOk_nil))
theorem loops_q89 : loopsIn code_q89 = [] := by kernel_rfl
theorem m_q89 : Meets Tryz.prog 14 c_q89 := meets_of (E := E_q89) (code := code_q89) mix layD_ok cons_q89 Tryz.func14 (by kernel_rfl) sg_q89 (by kernel_rfl) (fun y => ((⟨y.1, y.2.1, y.2.2.2.1⟩ : Mx), y.2.2.1)) c_q89.out (fun _ => rfl) c_q89.run (fun x => by kernel_rfl) (by kernel_rfl) (loops_mem loops_q89 (trivial))
noncomputable def sg_q90 : Sig := ⟨[(true, [.d (.bool), .own 1, .own 2])], [(1, .arr false .int), (2, .arr false .int)], true, [(true, [.d (.bool), .own 0, .own 1]), (false, [.d (.bool)])], [(0, .arr false .int), (1, .arr false .int)]⟩
noncomputable def c_q90 : Con := ⟨sg_q90, Rt × Bool, fun x => M_impl_given_c (⟨x.1, x.2.1, x.2.2.1⟩ : Rt), fun r => (r.1.neg, r.2, r.1.mag, r.1.den, ())⟩
noncomputable def code_q90 : Code := Tryz.f69.body.getD .skip
noncomputable def E_q90 : Env := ⟨layD, [(86, c_q71)], [], []⟩
theorem cons_q90 : ConsOk Tryz.prog E_q90.cons := consOk_cons m_q71 (callable_of Tryz.func86 (by kernel_rfl)) (consOk_nil)
theorem loops_q90 : loopsIn code_q90 = [] := by kernel_rfl
theorem m_q90 : Meets Tryz.prog 69 c_q90 := meets_of (E := E_q90) (code := code_q90) mix layD_ok cons_q90 Tryz.func69 (by kernel_rfl) sg_q90 (by kernel_rfl) (fun y => ((⟨y.1, y.2.2.1, y.2.2.2.1⟩ : Rt), y.2.1)) c_q90.out (fun _ => rfl) c_q90.run (fun x => by kernel_rfl) (by kernel_rfl) (loops_mem loops_q90 (trivial))
noncomputable def sg_q91 : Sig := ⟨[(true, [.d (.int .i64), .d (.int .i64), .d (.sl .rat)])], [], true, [(true, [.d (.bool), .own 0, .own 1]), (false, [.d (.bool)])], [(0, .arr false .int), (1, .arr false .int)]⟩
noncomputable def c_q91 : Con := ⟨sg_q91, Rt × Bool, fun x => M_impl_Determinant (⟨x.1, x.2.1, x.2.2.1⟩ : Mx), fun r => (r.1.neg, r.2, r.1.mag, r.1.den, ())⟩
noncomputable def code_q91 : Code := Tryz.f15.body.getD .skip
noncomputable def body_q91_0 : Code := (loopsIn code_q91).getD 0 .skip
noncomputable def D_q91_0 : LoopD := ⟨⟨mkSlots [(2, false, [.lp 128 0]), (6, false, [.lp 384 0]), (37, false, [.d (.sl .rat)]), (38, false, [.d (.int .i64)]), (39, false, [.d (.int .i64)])] 51 0, [(128, .box [.d (.bool), .d (.sl .int), .d (.sl .int)]), (384, .box [.d (.bool), .own 3328, .own 3392]), (3328, .arr false .int), (3392, .arr false .int)]⟩, [], [(.exit 0, ⟨mkSlots [(2, false, [.lp 128 0]), (6, false, [.lp 384 0])] 51 0, [(128, .box [.d (.bool), .d (.sl .int), .d (.sl .int)]), (384, .box [.d (.bool), .own 3328, .own 3392]), (3328, .arr false .int), (3392, .arr false .int)]⟩, [])]⟩
noncomputable def S_q91_0_w (x : Tys D_q91_0.head.ks) : Option (OutT D_q91_0.outs) := @whileO ((List Rt) × Int × Int × Bool × (List Int) × (List Int) × Bool × (List Int) × (List Int) × Unit) (Bool × (List Int) × (List Int) × Bool × (List Int) × (List Int) × Unit) S_impl_Determinant_0 x
noncomputable def E_q91 : Env := ⟨layD, [(64, c_q47), (66, c_q84), (67, c_q57), (68, c_q74), (69, c_q90)], [(10, mkLM D_q91_0 S_q91_0_w)], []⟩
theorem cons_q91 : ConsOk Tryz.prog E_q91.cons := consOk_cons m_q47 (callable_of Tryz.func64 (by kernel_rfl)) (consOk_cons m_q84 (callable_of Tryz.func66 (by kernel_rfl)) (consOk_cons m_q57 (callable_of Tryz.func67 (by kernel_rfl)) (consOk_cons m_q74 (callable_of Tryz.func68 (by kernel_rfl)) (consOk_cons m_q90 (callable_of Tryz.func69 (by kernel_rfl)) (consOk_nil)))))
theorem S_q91_0_ok (x : Tys D_q91_0.head.ks) : stepL E_q91 D_q91_0 body_q91_0 x = S_impl_Determinant_0 x := by kernel_rfl
theorem loops_q91_0 : loopsIn body_q91_0 = [] := by kernel_rfl
theorem l_q91_0 : LoopOk Tryz.prog (mkLM D_q91_0 S_q91_0_w) body_q91_0 := loop_ok2 mix layD_ok cons_q91 (by kernel_rfl) (loops_mem loops_q91_0 (trivial)) S_q91_0_ok fun _ _ h => h
theorem loops_q91 : loopsIn code_q91 = [body_q91_0] := by kernel_rfl
theorem m_q91 : Meets Tryz.prog 15 c_q91 := meets_of (E := E_q91) (code := code_q91) mix layD_ok cons_q91 Tryz.func15 (by kernel_rfl) sg_q91 (by kernel_rfl) (fun y => ((⟨y.1, y.2.2.1, y.2.2.2.1⟩ : Rt), y.2.1)) c_q91.out (fun _ => rfl) c_q91.run (fun x => by kernel_rfl) (by kernel_rfl) (loops_mem loops_q91 (⟨⟨_, by kernel_rfl, l_q91_0⟩, trivial⟩))
noncomputable def sg_q92 : Sig := ⟨[(false, [.d (.sl .rat)])], [], false, [(false, [.d (.bool)])], []⟩
noncomputable def c_q92 : Con := ⟨sg_q92, Bool, fun x => M_impl_IsVector x.1, fun r => (r, ())⟩
noncomputable def code_q92 : Code := Tryz.f70.body.getD .skip
noncomputable def body_q92_0 : Code := (loopsIn code_q92).getD 0 .skip
noncomputable def D_q92_0 : LoopD := ⟨⟨mkSlots [(8, false, [.d (.sl .rat)]), (9, false, [.d (.int .i64)]), (10, false, [.d (.int .i64)])] 18 0, []⟩, [], [(.ret, ⟨mkSlots [(2, false, [.d (.bool)])] 18 0, []⟩, []), (.exit 0, ⟨mkSlots [] 18 0, []⟩, [])]⟩
noncomputable def S_q92_0_w (x : Tys D_q92_0.head.ks) : Option (OutT D_q92_0.outs) := @whileO ((List Rt) × Int × Int × Unit) ((Bool × Unit) ⊕ (Unit)) S_impl_IsVector_0 x
noncomputable def E_q92 : Env := ⟨layD, [(73, c_q46)], [(4, mkLM D_q92_0 S_q92_0_w)], []⟩
theorem cons_q92 : ConsOk Tryz.prog E_q92.cons := consOk_cons m_q46 (callable_of Tryz.func73 (by kernel_rfl)) (consOk_nil)
theorem S_q92_0_ok (x : Tys D_q92_0.head.ks) : stepL E_q92 D_q92_0 body_q92_0 x = S_impl_IsVector_0 x := by kernel_rfl
theorem loops_q92_0 : loopsIn body_q92_0 = [] := by kernel_rfl
theorem l_q92_0 : LoopOk Tryz.prog (mkLM D_q92_0 S_q92_0_w) body_q92_0 := loop_ok2 mix layD_ok cons_q92 (by kernel_rfl) (loops_mem loops_q92_0 (trivial)) S_q92_0_ok fun _ _ h => h
theorem loops_q92 : loopsIn code_q92 = [body_q92_0] := by kernel_rfl
theorem m_q92 : Meets Tryz.prog 70 c_q92 := meets_of (E := E_q92) (code := code_q92) mix layD_ok cons_q92 Tryz.func70 (by kernel_rfl) sg_q92 (by kernel_rfl) (fun y => y.1) c_q92.out (fun _ => rfl) c_q92.run (fun x => by kernel_rfl) (by kernel_rfl) (loops_mem loops_q92 (⟨⟨_, by kernel_rfl, l_q92_0⟩, trivial⟩))
noncomputable def sg_q93 : Sig := ⟨[(true, [.d (.int .i64), .d (.int .i64), .d (.sl .rat)])], [], true, [(true, [.d (.int .i64), .d (.int .i64), .d (.sl .rat)]), (false, [.d (.sl .int)]), (false, [.d (.bool)])], []⟩
noncomputable def c_q93 : Con := ⟨sg_q93, Mx × List Int × Bool, fun x => M_impl_Reduce (⟨x.1, x.2.1, x.2.2.1⟩ : Mx), fun r => (r.1.rows, r.1.cols, r.1.cells, r.2.1, r.2.2, ())⟩
noncomputable def code_q93 : Code := Tryz.f38.body.getD .skip
noncomputable def E_q93 : Env := ⟨layD, [(64, c_q47), (66, c_q84)], [], [(6, [(0, []), (1, []), (2, []), (3, []), (4, [1, 0]), (5, [3, 4, 0, 1, 2]), (6, [5, 0, 1, 2, 3, 4])])]⟩
theorem cons_q93 : ConsOk Tryz.prog E_q93.cons := consOk_cons m_q47 (callable_of Tryz.func64 (by kernel_rfl)) (consOk_cons m_q84 (callable_of Tryz.func66 (by kernel_rfl)) (consOk_nil))
theorem loops_q93 : loopsIn code_q93 = [] := by kernel_rfl
theorem m_q93 : Meets Tryz.prog 38 c_q93 := meets_of (E := E_q93) (code := code_q93) mix layD_ok cons_q93 Tryz.func38 (by kernel_rfl) sg_q93 (by kernel_rfl) (fun y => ((⟨y.1, y.2.1, y.2.2.1⟩ : Mx), y.2.2.2.1, y.2.2.2.2.1)) c_q93.out (fun _ => rfl) c_q93.run (fun x => by kernel_rfl) (by kernel_rfl) (loops_mem loops_q93 (trivial))
noncomputable def sg_q94 : Sig := ⟨[(true, [.d (.int .i64), .d (.int .i64), .d (.sl .rat)])], [], false, [(false, [.d (.int .i64)])], []⟩
noncomputable def c_q94 : Con := ⟨sg_q94, Int, fun x => M_impl_RankOf (⟨x.1, x.2.1, x.2.2.1⟩ : Mx), fun r => (r, ())⟩
noncomputable def code_q94 : Code := Tryz.f18.body.getD .skip
noncomputable def E_q94 : Env := ⟨layD, [(38, c_q93)], [], []⟩
theorem cons_q94 : ConsOk Tryz.prog E_q94.cons := consOk_cons m_q93 (callable_of Tryz.func38 (by kernel_rfl)) (consOk_nil)
theorem loops_q94 : loopsIn code_q94 = [] := by kernel_rfl
theorem m_q94 : Meets Tryz.prog 18 c_q94 := meets_of (E := E_q94) (code := code_q94) mix layD_ok cons_q94 Tryz.func18 (by kernel_rfl) sg_q94 (by kernel_rfl) (fun y => y.1) c_q94.out (fun _ => rfl) c_q94.run (fun x => by kernel_rfl) (by kernel_rfl) (loops_mem loops_q94 (trivial))
noncomputable def sg_q95 : Sig := ⟨[(true, [.d (.int .i64), .d (.int .i64), .d (.sl .rat)]), (false, [.d (.sl .rat)])], [], true, [(false, [.own 0]), (false, [.d (.bool)])], [(0, .arr false .rat)]⟩
noncomputable def c_q95 : Con := ⟨sg_q95, List Rt × Bool, fun x => M_impl_SolveSystem (⟨x.1, x.2.1, x.2.2.1⟩ : Mx) x.2.2.2.1, fun r => (r.2, r.1, ())⟩
noncomputable def code_q95 : Code := Tryz.f16.body.getD .skip
noncomputable def body_q95_0 : Code := (loopsIn code_q95).getD 0 .skip
noncomputable def D_q95_0 : LoopD := ⟨⟨mkSlots [(2, false, [.lp 128 0]), (6, false, [.lp 384 0]), (8, false, [.own 4672]), (57, false, [.d (.int .i64)]), (58, false, [.d (.int .i64)])] 72 0, [(128, .box [.d (.int .i64), .d (.int .i64), .d (.sl .rat)]), (384, .box [.d (.int .i64), .d (.int .i64), .d (.sl .rat), .d (.sl .int), .d (.sl .rat)]), (4672, .arr false .rat)]⟩, [(.slot 8 0, 4672, .rat)], [(.exit 0, ⟨mkSlots [(8, false, [.own 4672])] 72 0, [(4672, .arr false .rat)]⟩, [(.slot 8 0, 4672, .rat)])]⟩
noncomputable def S_q95_0_w (x : Tys D_q95_0.head.ks) : Option (OutT D_q95_0.outs) := @whileO (Int × Int × Int × Int × (List Rt) × Int × Int × (List Rt) × (List Int) × (List Rt) × (List Rt) × Unit) ((List Rt) × Unit) S_impl_SolveSystem_0 x
noncomputable def E_q95 : Env := ⟨lay, [(64, c_q47), (70, c_q92), (18, c_q94), (71, c_q64), (66, c_q84), (72, c_q61)], [(8, mkLM D_q95_0 S_q95_0_w)], [(1, [(0, []), (1, [0]), (2, []), (3, []), (4, []), (5, [4, 3, 2, 1, 0]), (6, []), (7, []), (8, []), (9, []), (10, []), (11, []), (12, []), (13, []), (14, []), (15, []), (16, []), (17, []), (18, []), (19, []), (20, []), (21, []), (22, []), (23, []), (24, []), (25, []), (26, []), (27, []), (28, []), (30, []), (31, []), (29, [28, 27, 26, 20, 25, 19, 15, 22, 24, 18, 14, 8, 21, 23, 17, 13, 7, 5, 16, 10, 12, 3, 6, 4, 9, 11, 2, 1, 0]), (32, []), (33, [])])]⟩
theorem cons_q95 : ConsOk Tryz.prog E_q95.cons := consOk_cons m_q47 (callable_of Tryz.func64 (by kernel_rfl)) (consOk_cons m_q92 (callable_of Tryz.func70 (by kernel_rfl)) (consOk_cons m_q94 (callable_of Tryz.func18 (by kernel_rfl)) (consOk_cons m_q64 (callable_of Tryz.func71 (by kernel_rfl)) (consOk_cons m_q84 (callable_of Tryz.func66 (by kernel_rfl)) (consOk_cons m_q61 (callable_of Tryz.func72 (by kernel_rfl)) (consOk_nil))))))
theorem S_q95_0_ok (x : Tys D_q95_0.head.ks) : stepL E_q95 D_q95_0 body_q95_0 x = S_impl_SolveSystem_0 x := by kernel_rfl
theorem loops_q95_0 : loopsIn body_q95_0 = [] := by kernel_rfl
theorem l_q95_0 : LoopOk Tryz.prog (mkLM D_q95_0 S_q95_0_w) body_q95_0 := loop_ok2 mix lay_ok cons_q95 (by kernel_rfl) (loops_mem loops_q95_0 (trivial)) S_q95_0_ok fun _ _ h => h
theorem loops_q95 : loopsIn code_q95 = [body_q95_0] := by kernel_rfl
theorem m_q95 : Meets Tryz.prog 16 c_q95 := meets_of (E := E_q95) (code := code_q95) mix lay_ok cons_q95 Tryz.func16 (by kernel_rfl) sg_q95 (by kernel_rfl) (fun y => (y.2.1, y.1)) c_q95.out (fun _ => rfl) c_q95.run (fun x => by kernel_rfl) (by kernel_rfl) (loops_mem loops_q95 (⟨⟨_, by kernel_rfl, l_q95_0⟩, trivial⟩))
noncomputable def sg_q96 : Sig := ⟨[(true, [.d (.bool), .d (.sl .int), .d (.sl .int)])], [], false, [(false, [.d (.int .i64)])], []⟩
noncomputable def c_q96 : Con := ⟨sg_q96, Int, fun x => M_impl_sign (⟨x.1, x.2.1, x.2.2.1⟩ : Rt), fun r => (r, ())⟩
noncomputable def code_q96 : Code := Tryz.f74.body.getD .skip
noncomputable def E_q96 : Env := ⟨layD, [], [], []⟩
theorem cons_q96 : ConsOk Tryz.prog E_q96.cons := consOk_nil
theorem loops_q96 : loopsIn code_q96 = [] := by kernel_rfl
theorem m_q96 : Meets Tryz.prog 74 c_q96 := meets_of (E := E_q96) (code := code_q96) mix layD_ok cons_q96 Tryz.func74 (by kernel_rfl) sg_q96 (by kernel_rfl) (fun y => y.1) c_q96.out (fun _ => rfl) c_q96.run (fun x => by kernel_rfl) (by kernel_rfl) (loops_mem loops_q96 (trivial))
noncomputable def sg_q97 : Sig := ⟨[(true, [.d (.bool), .d (.sl .int), .d (.sl .int)])], [], false, [(false, [.d (.int .i64)])], []⟩
noncomputable def c_q97 : Con := ⟨sg_q97, Int, fun x => M_impl_RatSign (⟨x.1, x.2.1, x.2.2.1⟩ : Rt), fun r => (r, ())⟩
noncomputable def code_q97 : Code := Tryz.f17.body.getD .skip
noncomputable def E_q97 : Env := ⟨layD, [(73, c_q46), (74, c_q96)], [], []⟩
theorem cons_q97 : ConsOk Tryz.prog E_q97.cons := consOk_cons m_q46 (callable_of Tryz.func73 (by kernel_rfl)) (consOk_cons m_q96 (callable_of Tryz.func74 (by kernel_rfl)) (consOk_nil))
theorem loops_q97 : loopsIn code_q97 = [] := by kernel_rfl
theorem m_q97 : Meets Tryz.prog 17 c_q97 := meets_of (E := E_q97) (code := code_q97) mix layD_ok cons_q97 Tryz.func17 (by kernel_rfl) sg_q97 (by kernel_rfl) (fun y => y.1) c_q97.out (fun _ => rfl) c_q97.run (fun x => by kernel_rfl) (by kernel_rfl) (loops_mem loops_q97 (trivial))
noncomputable def sg_q98 : Sig := ⟨[(false, [.d (.int .i64)]), (false, [.d (.int .i64)])], [], false, [(true, [.d (.bool), .own 0, .own 1])], [(0, .arr false .int), (1, .arr false .int)]⟩
noncomputable def c_q98 : Con := ⟨sg_q98, Rt, fun x => M_impl_IdentityMatrix_c1 x.1 x.2.1, fun r => (r.neg, r.mag, r.den, ())⟩
noncomputable def code_q98 : Code := Tryz.f77.body.getD .skip
noncomputable def E_q98 : Env := ⟨layD, [(67, c_q57)], [], []⟩
theorem cons_q98 : ConsOk Tryz.prog E_q98.cons := consOk_cons m_q57 (callable_of Tryz.func67 (by kernel_rfl)) (consOk_nil)
theorem loops_q98 : loopsIn code_q98 = [] := by kernel_rfl
theorem m_q98 : Meets Tryz.prog 77 c_q98 := meets_of (E := E_q98) (code := code_q98) mix layD_ok cons_q98 Tryz.func77 (by kernel_rfl) sg_q98 (by kernel_rfl) (fun y => (⟨y.1, y.2.1, y.2.2.1⟩ : Rt)) c_q98.out (fun _ => rfl) c_q98.run (fun x => by kernel_rfl) (by kernel_rfl) (loops_mem loops_q98 (trivial))
noncomputable def sg_q99 : Sig := ⟨[(false, [.d (.int .i64)]), (false, [.d (.int .i64)]), (false, [.fn 77 []])], [], false, [(true, [.d (.int .i64), .d (.int .i64), .dp 0])], [(0, .deep .rat)]⟩
noncomputable def c_q99 : Con := ⟨sg_q99, Mx, fun x => M_impl_built__impl_IdentityMatrix_c1 x.1 x.2.1, fun r => (r.rows, r.cols, r.cells, ())⟩
noncomputable def code_q99 : Code := Tryz.f76.body.getD .skip
noncomputable def body_q99_0 : Code := (loopsIn code_q99).getD 0 .skip
noncomputable def body_q99_1 : Code := (loopsIn body_q99_0).getD 0 .skip
noncomputable def D_q99_0 : LoopD := ⟨⟨mkSlots [(1, false, [.d (.int .i64)]), (2, false, [.fn 77 []]), (6, false, [.lp 384 0]), (7, false, [.lp 448 0]), (13, false, [.d (.int .i64)]), (14, false, [.d (.int .i64)])] 33 0, [(384, .box [.d (.int .i64), .d (.int .i64), .d (.sl .rat)]), (448, .box [.d (.int .i64), .d (.int .i64), .dp 2176]), (2176, .deep .rat)]⟩, [(.boxD 448 2, 2176, .rat)], [(.exit 0, ⟨mkSlots [(6, false, [.lp 384 0]), (7, false, [.lp 448 0])] 33 0, [(384, .box [.d (.int .i64), .d (.int .i64), .d (.sl .rat)]), (448, .box [.d (.int .i64), .d (.int .i64), .dp 2176]), (2176, .deep .rat)]⟩, [(.boxD 448 2, 2176, .rat)])]⟩
noncomputable def D_q99_1 : LoopD := ⟨⟨mkSlots [(1, false, [.d (.int .i64)]), (2, false, [.fn 77 []]), (6, false, [.lp 384 0]), (7, false, [.lp 448 0]), (8, false, [.d (.int .i64)]), (13, false, [.d (.int .i64)]), (14, false, [.d (.int .i64)]), (17, false, [.d (.int .i64)]), (18, false, [.d (.int .i64)])] 33 0, [(384, .box [.d (.int .i64), .d (.int .i64), .d (.sl .rat)]), (448, .box [.d (.int .i64), .d (.int .i64), .dp 2176]), (2176, .deep .rat)]⟩, [(.boxD 448 2, 2176, .rat)], [(.exit 2, ⟨mkSlots [(1, false, [.d (.int .i64)]), (2, false, [.fn 77 []]), (6, false, [.lp 384 0]), (7, false, [.lp 448 0]), (13, false, [.d (.int .i64)]), (14, false, [.d (.int .i64)])] 33 0, [(384, .box [.d (.int .i64), .d (.int .i64), .d (.sl .rat)]), (448, .box [.d (.int .i64), .d (.int .i64), .dp 2176]), (2176, .deep .rat)]⟩, [(.boxD 448 2, 2176, .rat)])]⟩
noncomputable def S_q99_0_w (x : Tys D_q99_0.head.ks) : Option (OutT D_q99_0.outs) := @whileO (Int × Int × Int × Int × Int × (List Rt) × Int × Int × (List Rt) × Unit) (Int × Int × (List Rt) × Int × Int × (List Rt) × Unit) S_impl_built__impl_IdentityMatrix_c1_0 x
noncomputable def S_q99_1_w (x : Tys D_q99_1.head.ks) : Option (OutT D_q99_1.outs) := @whileO (Int × Int × Int × Int × Int × Int × Int × Int × (List Rt) × Int × Int × (List Rt) × Unit) (Int × Int × Int × Int × Int × (List Rt) × Int × Int × (List Rt) × Unit) S_impl_built__impl_IdentityMatrix_c1_1 x
noncomputable def E_q99 : Env := ⟨layD, [(77, c_q98)], [(3, mkLM D_q99_0 S_q99_0_w), (6, mkLM D_q99_1 S_q99_1_w)], [(8, [(0, []), (1, []), (2, []), (3, []), (4, []), (5, [2, 3, 4]), (6, [5, 2, 3, 4]), (7, [1, 6, 5, 0, 2, 3, 4]), (8, []), (9, [8, 7, 0, 1, 2, 3, 4, 5, 6])])]⟩
theorem cons_q99 : ConsOk Tryz.prog E_q99.cons := consOk_cons m_q98 (callable_of Tryz.func77 (by kernel_rfl)) (consOk_nil)
theorem S_q99_1_ok (x : Tys D_q99_1.head.ks) : stepL E_q99 D_q99_1 body_q99_1 x = S_impl_built__impl_IdentityMatrix_c1_1 x := by kernel_rfl
theorem loops_q99_1 : loopsIn body_q99_1 = [] := by kernel_rfl
theorem l_q99_1 : LoopOk Tryz.prog (mkLM D_q99_1 S_q99_1_w) body_q99_1 := loop_ok2 mix layD_ok cons_q99 (by kernel_rfl) (loops_mem loops_q99_1 (trivial)) S_q99_1_ok fun _ _ h => h
theorem S_q99_0_ok (x : Tys D_q99_0.head.ks) : stepL E_q99 D_q99_0 body_q99_0 x = S_impl_built__impl_IdentityMatrix_c1_0 x := by kernel_rfl
theorem loops_q99_0 : loopsIn body_q99_0 = [body_q99_1] := by kernel_rfl
theorem l_q99_0 : LoopOk Tryz.prog (mkLM D_q99_0 S_q99_0_w) body_q99_0 := loop_ok2 mix layD_ok cons_q99 (by kernel_rfl) (loops_mem loops_q99_0 (⟨⟨_, by kernel_rfl, l_q99_1⟩, trivial⟩)) S_q99_0_ok fun _ _ h => h
theorem loops_q99 : loopsIn code_q99 = [body_q99_0] := by kernel_rfl
theorem m_q99 : Meets Tryz.prog 76 c_q99 := meets_of (E := E_q99) (code := code_q99) mix layD_ok cons_q99 Tryz.func76 (by kernel_rfl) sg_q99 (by kernel_rfl) (fun y => (⟨y.1, y.2.1, y.2.2.1⟩ : Mx)) c_q99.out (fun _ => rfl) c_q99.run (fun x => by kernel_rfl) (by kernel_rfl) (loops_mem loops_q99 (⟨⟨_, by kernel_rfl, l_q99_0⟩, trivial⟩))
noncomputable def sg_q100 : Sig := ⟨[(false, [.d (.int .i64)])], [], false, [(true, [.d (.int .i64), .d (.int .i64), .dp 0])], [(0, .deep .rat)]⟩
noncomputable def c_q100 : Con := ⟨sg_q100, Mx, fun x => M_impl_IdentityMatrix x.1, fun r => (r.rows, r.cols, r.cells, ())⟩
noncomputable def code_q100 : Code := Tryz.f20.body.getD .skip
noncomputable def E_q100 : Env := ⟨layD, [(75, c_q34), (76, c_q99)], [], []⟩
theorem cons_q100 : ConsOk Tryz.prog E_q100.cons := consOk_cons m_q34 (callable_of Tryz.func75 (by kernel_rfl)) (consOk_cons m_q99 (callable_of Tryz.func76 (by kernel_rfl)) (consOk_nil))
theorem loops_q100 : loopsIn code_q100 = [] := by kernel_rfl
theorem m_q100 : Meets Tryz.prog 20 c_q100 := meets_of (E := E_q100) (code := code_q100) mix layD_ok cons_q100 Tryz.func20 (by kernel_rfl) sg_q100 (by kernel_rfl) (fun y => (⟨y.1, y.2.1, y.2.2.1⟩ : Mx)) c_q100.out (fun _ => rfl) c_q100.run (fun x => by kernel_rfl) (by kernel_rfl) (loops_mem loops_q100 (trivial))
noncomputable def sg_q101 : Sig := ⟨[(false, [.d (.int .i64)]), (false, [.d (.int .i64)]), (false, [.d (.sl .int)])], [], false, [(true, [.d (.int .i64), .d (.int .i64), .dp 0])], [(0, .deep .rat)]⟩
noncomputable def c_q101 : Con := ⟨sg_q101, Mx, fun x => M_impl_MatrixOf x.1 x.2.1 x.2.2.1, fun r => (r.rows, r.cols, r.cells, ())⟩
noncomputable def code_q101 : Code := Tryz.f21.body.getD .skip
noncomputable def body_q101_0 : Code := (loopsIn code_q101).getD 0 .skip
noncomputable def D_q101_0 : LoopD := ⟨⟨mkSlots [(6, false, [.lp 384 0]), (7, false, [.lp 448 0]), (30, false, [.d (.sl .int)]), (31, false, [.d (.int .i64)]), (32, false, [.d (.int .i64)])] 45 0, [(384, .box [.d (.int .i64), .d (.int .i64), .d (.sl .rat)]), (448, .box [.d (.int .i64), .d (.int .i64), .dp 2944]), (2944, .deep .rat)]⟩, [(.boxD 448 2, 2944, .rat)], [(.exit 0, ⟨mkSlots [(6, false, [.lp 384 0]), (7, false, [.lp 448 0])] 45 0, [(384, .box [.d (.int .i64), .d (.int .i64), .d (.sl .rat)]), (448, .box [.d (.int .i64), .d (.int .i64), .dp 2944]), (2944, .deep .rat)]⟩, [(.boxD 448 2, 2944, .rat)])]⟩
noncomputable def S_q101_0_w (x : Tys D_q101_0.head.ks) : Option (OutT D_q101_0.outs) := @whileO ((List Int) × Int × Int × Int × Int × (List Rt) × Int × Int × (List Rt) × Unit) (Int × Int × (List Rt) × Int × Int × (List Rt) × Unit) S_impl_MatrixOf_0 x
noncomputable def E_q101 : Env := ⟨layD, [(75, c_q34), (67, c_q57)], [(5, mkLM D_q101_0 S_q101_0_w)], [(7, [(0, []), (1, []), (2, []), (3, [2]), (4, [3, 2]), (5, [1, 4, 3, 0, 2]), (6, []), (7, [6, 5, 0, 1, 2, 3, 4])])]⟩
theorem cons_q101 : ConsOk Tryz.prog E_q101.cons := consOk_cons m_q34 (callable_of Tryz.func75 (by kernel_rfl)) (consOk_cons m_q57 (callable_of Tryz.func67 (by kernel_rfl)) (consOk_nil))
theorem S_q101_0_ok (x : Tys D_q101_0.head.ks) : stepL E_q101 D_q101_0 body_q101_0 x = S_impl_MatrixOf_0 x := by kernel_rfl
theorem loops_q101_0 : loopsIn body_q101_0 = [] := by kernel_rfl
theorem l_q101_0 : LoopOk Tryz.prog (mkLM D_q101_0 S_q101_0_w) body_q101_0 := loop_ok2 mix layD_ok cons_q101 (by kernel_rfl) (loops_mem loops_q101_0 (trivial)) S_q101_0_ok fun _ _ h => h
theorem loops_q101 : loopsIn code_q101 = [body_q101_0] := by kernel_rfl
theorem m_q101 : Meets Tryz.prog 21 c_q101 := meets_of (E := E_q101) (code := code_q101) mix layD_ok cons_q101 Tryz.func21 (by kernel_rfl) sg_q101 (by kernel_rfl) (fun y => (⟨y.1, y.2.1, y.2.2.1⟩ : Mx)) c_q101.out (fun _ => rfl) c_q101.run (fun x => by kernel_rfl) (by kernel_rfl) (loops_mem loops_q101 (⟨⟨_, by kernel_rfl, l_q101_0⟩, trivial⟩))
noncomputable def sg_q102 : Sig := ⟨[(true, [.d (.bool), .d (.sl .int), .d (.sl .int)]), (true, [.d (.bool), .d (.sl .int), .d (.sl .int)])], [], false, [(false, [.d (.bool)])], []⟩
noncomputable def c_q102 : Con := ⟨sg_q102, Bool, fun x => M_impl_RatEqual (⟨x.1, x.2.1, x.2.2.1⟩ : Rt) (⟨x.2.2.2.1, x.2.2.2.2.1, x.2.2.2.2.2.1⟩ : Rt), fun r => (r, ())⟩
noncomputable def code_q102 : Code := Tryz.f80.body.getD .skip
noncomputable def E_q102 : Env := ⟨layD, [(135, c_q79)], [], []⟩
theorem cons_q102 : ConsOk Tryz.prog E_q102.cons := consOk_cons m_q79 (callable_of Tryz.func135 (by kernel_rfl)) (consOk_nil)
theorem loops_q102 : loopsIn code_q102 = [] := by kernel_rfl
theorem m_q102 : Meets Tryz.prog 80 c_q102 := meets_of (E := E_q102) (code := code_q102) mix layD_ok cons_q102 Tryz.func80 (by kernel_rfl) sg_q102 (by kernel_rfl) (fun y => y.1) c_q102.out (fun _ => rfl) c_q102.run (fun x => by kernel_rfl) (by kernel_rfl) (loops_mem loops_q102 (trivial))
noncomputable def sg_q103 : Sig := ⟨[(false, [.d (.sl .rat)]), (false, [.d (.sl .rat)])], [], false, [(false, [.d (.bool)])], []⟩
noncomputable def c_q103 : Con := ⟨sg_q103, Bool, fun x => M_impl_EqualVectors x.1 x.2.1, fun r => (r, ())⟩
noncomputable def code_q103 : Code := Tryz.f24.body.getD .skip
noncomputable def body_q103_0 : Code := (loopsIn code_q103).getD 0 .skip
noncomputable def D_q103_0 : LoopD := ⟨⟨mkSlots [(0, false, [.d (.sl .rat)]), (1, false, [.d (.sl .rat)]), (12, false, [.d (.int .i64)]), (13, false, [.d (.int .i64)])] 27 0, []⟩, [], [(.ret, ⟨mkSlots [(4, false, [.d (.bool)])] 27 0, []⟩, []), (.exit 0, ⟨mkSlots [] 27 0, []⟩, [])]⟩
noncomputable def S_q103_0_w (x : Tys D_q103_0.head.ks) : Option (OutT D_q103_0.outs) := @whileO ((List Rt) × (List Rt) × Int × Int × Unit) ((Bool × Unit) ⊕ (Unit)) S_impl_EqualVectors_0 x
noncomputable def E_q103 : Env := ⟨layD, [(80, c_q102)], [(4, mkLM D_q103_0 S_q103_0_w)], [(6, [(0, []), (1, []), (2, []), (3, []), (4, []), (5, []), (6, []), (7, []), (8, [3, 7, 2, 6, 0, 1, 4, 5]), (9, [])])]⟩
theorem cons_q103 : ConsOk Tryz.prog E_q103.cons := consOk_cons m_q102 (callable_of Tryz.func80 (by kernel_rfl)) (consOk_nil)
theorem S_q103_0_ok (x : Tys D_q103_0.head.ks) : stepL E_q103 D_q103_0 body_q103_0 x = S_impl_EqualVectors_0 x := by kernel_rfl
theorem loops_q103_0 : loopsIn body_q103_0 = [] := by kernel_rfl
theorem l_q103_0 : LoopOk Tryz.prog (mkLM D_q103_0 S_q103_0_w) body_q103_0 := loop_ok2 mix layD_ok cons_q103 (by kernel_rfl) (loops_mem loops_q103_0 (trivial)) S_q103_0_ok fun _ _ h => h
theorem loops_q103 : loopsIn code_q103 = [body_q103_0] := by kernel_rfl
theorem m_q103 : Meets Tryz.prog 24 c_q103 := meets_of (E := E_q103) (code := code_q103) mix layD_ok cons_q103 Tryz.func24 (by kernel_rfl) sg_q103 (by kernel_rfl) (fun y => y.1) c_q103.out (fun _ => rfl) c_q103.run (fun x => by kernel_rfl) (by kernel_rfl) (loops_mem loops_q103 (⟨⟨_, by kernel_rfl, l_q103_0⟩, trivial⟩))
noncomputable def sg_q104 : Sig := ⟨[(true, [.d (.int .i64), .d (.int .i64), .d (.sl .rat)]), (true, [.d (.int .i64), .d (.int .i64), .d (.sl .rat)])], [], false, [(false, [.d (.bool)])], []⟩
noncomputable def c_q104 : Con := ⟨sg_q104, Bool, fun x => M_impl_EqualMatrices (⟨x.1, x.2.1, x.2.2.1⟩ : Mx) (⟨x.2.2.2.1, x.2.2.2.2.1, x.2.2.2.2.2.1⟩ : Mx), fun r => (r, ())⟩
noncomputable def code_q104 : Code := Tryz.f19.body.getD .skip
noncomputable def E_q104 : Env := ⟨layD, [(24, c_q103)], [], []⟩
theorem cons_q104 : ConsOk Tryz.prog E_q104.cons := consOk_cons m_q103 (callable_of Tryz.func24 (by kernel_rfl)) (consOk_nil)
theorem loops_q104 : loopsIn code_q104 = [] := by kernel_rfl
theorem m_q104 : Meets Tryz.prog 19 c_q104 := meets_of (E := E_q104) (code := code_q104) mix layD_ok cons_q104 Tryz.func19 (by kernel_rfl) sg_q104 (by kernel_rfl) (fun y => y.1) c_q104.out (fun _ => rfl) c_q104.run (fun x => by kernel_rfl) (by kernel_rfl) (loops_mem loops_q104 (trivial))
noncomputable def sg_q105 : Sig := ⟨[(false, [.d (.int .i64)]), (false, [.d (.int .i64)]), (false, [.sp [.int .i64, .int .i64, .sl .rat]])], [], false, [(true, [.d (.bool), .own 0, .own 1])], [(0, .arr false .int), (1, .arr false .int)]⟩
noncomputable def c_q105 : Con := ⟨sg_q105, Rt, fun x => M_impl_turned_c1 x.1 x.2.1 (⟨x.2.2.1, x.2.2.2.1, x.2.2.2.2.1⟩ : Mx), fun r => (r.neg, r.mag, r.den, ())⟩
noncomputable def code_q105 : Code := Tryz.f144.body.getD .skip
noncomputable def E_q105 : Env := ⟨layD, [(72, c_q61), (84, c_q53)], [], []⟩
theorem cons_q105 : ConsOk Tryz.prog E_q105.cons := consOk_cons m_q61 (callable_of Tryz.func72 (by kernel_rfl)) (consOk_cons m_q53 (callable_of Tryz.func84 (by kernel_rfl)) (consOk_nil))
theorem loops_q105 : loopsIn code_q105 = [] := by kernel_rfl
theorem m_q105 : Meets Tryz.prog 144 c_q105 := meets_of (E := E_q105) (code := code_q105) mix layD_ok cons_q105 Tryz.func144 (by kernel_rfl) sg_q105 (by kernel_rfl) (fun y => (⟨y.1, y.2.1, y.2.2.1⟩ : Rt)) c_q105.out (fun _ => rfl) c_q105.run (fun x => by kernel_rfl) (by kernel_rfl) (loops_mem loops_q105 (trivial))
noncomputable def sg_q106 : Sig := ⟨[(false, [.d (.int .i64)]), (false, [.d (.int .i64)]), (false, [.fn 144 [[.int .i64, .int .i64, .sl .rat]]])], [], false, [(true, [.d (.int .i64), .d (.int .i64), .dp 0])], [(0, .deep .rat)]⟩
noncomputable def c_q106 : Con := ⟨sg_q106, Mx, fun x => M_impl_built__impl_turned_c1 x.1 x.2.1 (⟨x.2.2.1, x.2.2.2.1, x.2.2.2.2.1⟩ : Mx), fun r => (r.rows, r.cols, r.cells, ())⟩
noncomputable def code_q106 : Code := Tryz.f76.body.getD .skip
noncomputable def body_q106_0 : Code := (loopsIn code_q106).getD 0 .skip
noncomputable def body_q106_1 : Code := (loopsIn body_q106_0).getD 0 .skip
noncomputable def D_q106_0 : LoopD := ⟨⟨mkSlots [(1, false, [.d (.int .i64)]), (2, false, [.fn 144 [[.int .i64, .int .i64, .sl .rat]]]), (6, false, [.lp 384 0]), (7, false, [.lp 448 0]), (13, false, [.d (.int .i64)]), (14, false, [.d (.int .i64)])] 33 0, [(384, .box [.d (.int .i64), .d (.int .i64), .d (.sl .rat)]), (448, .box [.d (.int .i64), .d (.int .i64), .dp 2176]), (2176, .deep .rat)]⟩, [(.boxD 448 2, 2176, .rat)], [(.exit 0, ⟨mkSlots [(6, false, [.lp 384 0]), (7, false, [.lp 448 0])] 33 0, [(384, .box [.d (.int .i64), .d (.int .i64), .d (.sl .rat)]), (448, .box [.d (.int .i64), .d (.int .i64), .dp 2176]), (2176, .deep .rat)]⟩, [(.boxD 448 2, 2176, .rat)])]⟩
noncomputable def D_q106_1 : LoopD := ⟨⟨mkSlots [(1, false, [.d (.int .i64)]), (2, false, [.fn 144 [[.int .i64, .int .i64, .sl .rat]]]), (6, false, [.lp 384 0]), (7, false, [.lp 448 0]), (8, false, [.d (.int .i64)]), (13, false, [.d (.int .i64)]), (14, false, [.d (.int .i64)]), (17, false, [.d (.int .i64)]), (18, false, [.d (.int .i64)])] 33 0, [(384, .box [.d (.int .i64), .d (.int .i64), .d (.sl .rat)]), (448, .box [.d (.int .i64), .d (.int .i64), .dp 2176]), (2176, .deep .rat)]⟩, [(.boxD 448 2, 2176, .rat)], [(.exit 2, ⟨mkSlots [(1, false, [.d (.int .i64)]), (2, false, [.fn 144 [[.int .i64, .int .i64, .sl .rat]]]), (6, false, [.lp 384 0]), (7, false, [.lp 448 0]), (13, false, [.d (.int .i64)]), (14, false, [.d (.int .i64)])] 33 0, [(384, .box [.d (.int .i64), .d (.int .i64), .d (.sl .rat)]), (448, .box [.d (.int .i64), .d (.int .i64), .dp 2176]), (2176, .deep .rat)]⟩, [(.boxD 448 2, 2176, .rat)])]⟩
noncomputable def S_q106_0_w (x : Tys D_q106_0.head.ks) : Option (OutT D_q106_0.outs) := @whileO (Int × Int × Int × (List Rt) × Int × Int × Int × Int × (List Rt) × Int × Int × (List Rt) × Unit) (Int × Int × (List Rt) × Int × Int × (List Rt) × Unit) S_impl_built__impl_turned_c1_0 x
noncomputable def S_q106_1_w (x : Tys D_q106_1.head.ks) : Option (OutT D_q106_1.outs) := @whileO (Int × Int × Int × (List Rt) × Int × Int × Int × Int × Int × Int × Int × (List Rt) × Int × Int × (List Rt) × Unit) (Int × Int × Int × (List Rt) × Int × Int × Int × Int × (List Rt) × Int × Int × (List Rt) × Unit) S_impl_built__impl_turned_c1_1 x
noncomputable def E_q106 : Env := ⟨layD, [(144, c_q105)], [(3, mkLM D_q106_0 S_q106_0_w), (6, mkLM D_q106_1 S_q106_1_w)], [(8, [(0, []), (1, []), (2, []), (3, []), (4, []), (5, [2, 3, 4]), (6, [5, 2, 3, 4]), (7, [1, 6, 5, 0, 2, 3, 4]), (8, []), (9, [8, 7, 0, 1, 2, 3, 4, 5, 6])])]⟩
theorem cons_q106 : ConsOk Tryz.prog E_q106.cons := consOk_cons m_q105 (callable_of Tryz.func144 (by kernel_rfl)) (consOk_nil)
theorem S_q106_1_ok (x : Tys D_q106_1.head.ks) : stepL E_q106 D_q106_1 body_q106_1 x = S_impl_built__impl_turned_c1_1 x := by kernel_rfl
theorem loops_q106_1 : loopsIn body_q106_1 = [] := by kernel_rfl
theorem l_q106_1 : LoopOk Tryz.prog (mkLM D_q106_1 S_q106_1_w) body_q106_1 := loop_ok2 mix layD_ok cons_q106 (by kernel_rfl) (loops_mem loops_q106_1 (trivial)) S_q106_1_ok fun _ _ h => h
theorem S_q106_0_ok (x : Tys D_q106_0.head.ks) : stepL E_q106 D_q106_0 body_q106_0 x = S_impl_built__impl_turned_c1_0 x := by kernel_rfl
theorem loops_q106_0 : loopsIn body_q106_0 = [body_q106_1] := by kernel_rfl
theorem l_q106_0 : LoopOk Tryz.prog (mkLM D_q106_0 S_q106_0_w) body_q106_0 := loop_ok2 mix layD_ok cons_q106 (by kernel_rfl) (loops_mem loops_q106_0 (⟨⟨_, by kernel_rfl, l_q106_1⟩, trivial⟩)) S_q106_0_ok fun _ _ h => h
theorem loops_q106 : loopsIn code_q106 = [body_q106_0] := by kernel_rfl
theorem m_q106 : Meets Tryz.prog 76 c_q106 := meets_of (E := E_q106) (code := code_q106) mix layD_ok cons_q106 Tryz.func76 (by kernel_rfl) sg_q106 (by kernel_rfl) (fun y => (⟨y.1, y.2.1, y.2.2.1⟩ : Mx)) c_q106.out (fun _ => rfl) c_q106.run (fun x => by kernel_rfl) (by kernel_rfl) (loops_mem loops_q106 (⟨⟨_, by kernel_rfl, l_q106_0⟩, trivial⟩))
noncomputable def sg_q107 : Sig := ⟨[(true, [.d (.int .i64), .d (.int .i64), .d (.sl .rat)])], [], false, [(true, [.d (.int .i64), .d (.int .i64), .dp 0])], [(0, .deep .rat)]⟩
noncomputable def c_q107 : Con := ⟨sg_q107, Mx, fun x => M_impl_turned (⟨x.1, x.2.1, x.2.2.1⟩ : Mx), fun r => (r.rows, r.cols, r.cells, ())⟩
noncomputable def code_q107 : Code := Tryz.f88.body.getD .skip
noncomputable def E_q107 : Env := ⟨layD, [(76, c_q106)], [], []⟩
theorem cons_q107 : ConsOk Tryz.prog E_q107.cons := consOk_cons m_q106 (callable_of Tryz.func76 (by kernel_rfl)) (consOk_nil)
theorem loops_q107 : loopsIn code_q107 = [] := by kernel_rfl
theorem m_q107 : Meets Tryz.prog 88 c_q107 := meets_of (E := E_q107) (code := code_q107) mix layD_ok cons_q107 Tryz.func88 (by kernel_rfl) sg_q107 (by kernel_rfl) (fun y => (⟨y.1, y.2.1, y.2.2.1⟩ : Mx)) c_q107.out (fun _ => rfl) c_q107.run (fun x => by kernel_rfl) (by kernel_rfl) (loops_mem loops_q107 (trivial))
noncomputable def sg_q67 : Sig := ⟨[(true, [.d (.int .i64), .d (.int .i64), .d (.sl .rat)]), (false, [.d (.int .i64)])], [], false, [(false, [.d (.sl .rat)])], []⟩
noncomputable def c_q67 : Con := ⟨sg_q67, List Rt, fun x => M_impl_Matrix_row (⟨x.1, x.2.1, x.2.2.1⟩ : Mx) x.2.2.2.1, fun r => (r, ())⟩
noncomputable def code_q67 : Code := Tryz.f122.body.getD .skip
noncomputable def E_q67 : Env := ⟨layD, [], [], []⟩
theorem cons_q67 : ConsOk Tryz.prog E_q67.cons := consOk_nil
theorem loops_q67 : loopsIn code_q67 = [] := by kernel_rfl
theorem m_q67 : Meets Tryz.prog 122 c_q67 := meets_of (E := E_q67) (code := code_q67) mix layD_ok cons_q67 Tryz.func122 (by kernel_rfl) sg_q67 (by kernel_rfl) (fun y => y.1) c_q67.out (fun _ => rfl) c_q67.run (fun x => by kernel_rfl) (by kernel_rfl) (loops_mem loops_q67 (trivial))
noncomputable def sg_q108 : Sig := ⟨[(false, [.d (.sl .rat)]), (false, [.d (.sl .rat)])], [], false, [(true, [.d (.bool), .own 0, .own 1])], [(0, .arr false .int), (1, .arr false .int)]⟩
noncomputable def c_q108 : Con := ⟨sg_q108, Rt, fun x => M_impl_inner x.1 x.2.1, fun r => (r.neg, r.mag, r.den, ())⟩
noncomputable def code_q108 : Code := Tryz.f89.body.getD .skip
noncomputable def body_q108_0 : Code := (loopsIn code_q108).getD 0 .skip
noncomputable def D_q108_0 : LoopD := ⟨⟨mkSlots [(0, false, [.d (.sl .rat)]), (1, false, [.d (.sl .rat)]), (4, false, [.lp 256 0]), (5, false, [.lp 320 0]), (9, false, [.d (.int .i64)]), (10, false, [.d (.int .i64)])] 26 0, [(256, .box [.d (.bool), .d (.sl .int), .d (.sl .int)]), (320, .box [.d (.bool), .own 1728, .own 1792]), (1728, .arr false .int), (1792, .arr false .int)]⟩, [], [(.exit 0, ⟨mkSlots [(4, false, [.lp 256 0]), (5, false, [.lp 320 0])] 26 0, [(256, .box [.d (.bool), .d (.sl .int), .d (.sl .int)]), (320, .box [.d (.bool), .own 1728, .own 1792]), (1728, .arr false .int), (1792, .arr false .int)]⟩, [])]⟩
noncomputable def S_q108_0_w (x : Tys D_q108_0.head.ks) : Option (OutT D_q108_0.outs) := @whileO ((List Rt) × (List Rt) × Int × Int × Bool × (List Int) × (List Int) × Bool × (List Int) × (List Int) × Unit) (Bool × (List Int) × (List Int) × Bool × (List Int) × (List Int) × Unit) S_impl_inner_0 x
noncomputable def E_q108 : Env := ⟨layD, [(67, c_q57), (68, c_q74), (143, c_q82)], [(3, mkLM D_q108_0 S_q108_0_w)], [(5, [(0, []), (1, []), (2, []), (3, []), (4, []), (5, []), (6, []), (7, []), (8, []), (9, [4, 8, 3, 7, 1, 2, 5, 6]), (10, [0, 9, 4, 8, 3, 7, 1, 2, 5, 6]), (11, [10, 0, 1, 2, 3, 4, 5, 6, 7, 8, 9])])]⟩
theorem cons_q108 : ConsOk Tryz.prog E_q108.cons := consOk_cons m_q57 (callable_of Tryz.func67 (by kernel_rfl)) (consOk_cons m_q74 (callable_of Tryz.func68 (by kernel_rfl)) (consOk_cons m_q82 (callable_of Tryz.func143 (by kernel_rfl)) (consOk_nil)))
theorem S_q108_0_ok (x : Tys D_q108_0.head.ks) : stepL E_q108 D_q108_0 body_q108_0 x = S_impl_inner_0 x := by kernel_rfl
theorem loops_q108_0 : loopsIn body_q108_0 = [] := by kernel_rfl
theorem l_q108_0 : LoopOk Tryz.prog (mkLM D_q108_0 S_q108_0_w) body_q108_0 := loop_ok2 mix layD_ok cons_q108 (by kernel_rfl) (loops_mem loops_q108_0 (trivial)) S_q108_0_ok fun _ _ h => h
theorem loops_q108 : loopsIn code_q108 = [body_q108_0] := by kernel_rfl
theorem m_q108 : Meets Tryz.prog 89 c_q108 := meets_of (E := E_q108) (code := code_q108) mix layD_ok cons_q108 Tryz.func89 (by kernel_rfl) sg_q108 (by kernel_rfl) (fun y => (⟨y.1, y.2.1, y.2.2.1⟩ : Rt)) c_q108.out (fun _ => rfl) c_q108.run (fun x => by kernel_rfl) (by kernel_rfl) (loops_mem loops_q108 (⟨⟨_, by kernel_rfl, l_q108_0⟩, trivial⟩))
noncomputable def sg_q109 : Sig := ⟨[(false, [.d (.int .i64)]), (false, [.d (.int .i64)]), (false, [.sp [.int .i64, .int .i64, .sl .rat]]), (false, [.sp [.int .i64, .int .i64, .sl .rat]])], [], false, [(true, [.d (.bool), .own 0, .own 1])], [(0, .arr false .int), (1, .arr false .int)]⟩
noncomputable def c_q109 : Con := ⟨sg_q109, Rt, fun x => M_impl_multiply_c1 x.1 x.2.1 (⟨x.2.2.1, x.2.2.2.1, x.2.2.2.2.1⟩ : Mx) (⟨x.2.2.2.2.2.1, x.2.2.2.2.2.2.1, x.2.2.2.2.2.2.2.1⟩ : Mx), fun r => (r.neg, r.mag, r.den, ())⟩
noncomputable def code_q109 : Code := Tryz.f134.body.getD .skip
noncomputable def E_q109 : Env := ⟨layD, [(122, c_q67), (89, c_q108)], [], [(1, [(0, []), (1, []), (3, []), (4, []), (2, [0, 1]), (5, [3, 4, 2, 0, 1]), (6, [2, 5, 0, 1, 3, 4]), (7, [6, 0, 1, 2, 3, 4, 5])])]⟩
theorem cons_q109 : ConsOk Tryz.prog E_q109.cons := consOk_cons m_q67 (callable_of Tryz.func122 (by kernel_rfl)) (consOk_cons m_q108 (callable_of Tryz.func89 (by kernel_rfl)) (consOk_nil))
theorem loops_q109 : loopsIn code_q109 = [] := by kernel_rfl
theorem m_q109 : Meets Tryz.prog 134 c_q109 := meets_of (E := E_q109) (code := code_q109) mix layD_ok cons_q109 Tryz.func134 (by kernel_rfl) sg_q109 (by kernel_rfl) (fun y => (⟨y.1, y.2.1, y.2.2.1⟩ : Rt)) c_q109.out (fun _ => rfl) c_q109.run (fun x => by kernel_rfl) (by kernel_rfl) (loops_mem loops_q109 (trivial))
noncomputable def sg_q110 : Sig := ⟨[(false, [.d (.int .i64)]), (false, [.d (.int .i64)]), (false, [.fn 134 [[.int .i64, .int .i64, .sl .rat], [.int .i64, .int .i64, .sl .rat]]])], [], false, [(true, [.d (.int .i64), .d (.int .i64), .dp 0])], [(0, .deep .rat)]⟩
noncomputable def c_q110 : Con := ⟨sg_q110, Mx, fun x => M_impl_built__impl_multiply_c1 x.1 x.2.1 (⟨x.2.2.1, x.2.2.2.1, x.2.2.2.2.1⟩ : Mx) (⟨x.2.2.2.2.2.1, x.2.2.2.2.2.2.1, x.2.2.2.2.2.2.2.1⟩ : Mx), fun r => (r.rows, r.cols, r.cells, ())⟩
noncomputable def code_q110 : Code := Tryz.f76.body.getD .skip
noncomputable def body_q110_0 : Code := (loopsIn code_q110).getD 0 .skip
noncomputable def body_q110_1 : Code := (loopsIn body_q110_0).getD 0 .skip
noncomputable def D_q110_0 : LoopD := ⟨⟨mkSlots [(1, false, [.d (.int .i64)]), (2, false, [.fn 134 [[.int .i64, .int .i64, .sl .rat], [.int .i64, .int .i64, .sl .rat]]]), (6, false, [.lp 384 0]), (7, false, [.lp 448 0]), (13, false, [.d (.int .i64)]), (14, false, [.d (.int .i64)])] 33 0, [(384, .box [.d (.int .i64), .d (.int .i64), .d (.sl .rat)]), (448, .box [.d (.int .i64), .d (.int .i64), .dp 2176]), (2176, .deep .rat)]⟩, [(.boxD 448 2, 2176, .rat)], [(.exit 0, ⟨mkSlots [(6, false, [.lp 384 0]), (7, false, [.lp 448 0])] 33 0, [(384, .box [.d (.int .i64), .d (.int .i64), .d (.sl .rat)]), (448, .box [.d (.int .i64), .d (.int .i64), .dp 2176]), (2176, .deep .rat)]⟩, [(.boxD 448 2, 2176, .rat)])]⟩
noncomputable def D_q110_1 : LoopD := ⟨⟨mkSlots [(1, false, [.d (.int .i64)]), (2, false, [.fn 134 [[.int .i64, .int .i64, .sl .rat], [.int .i64, .int .i64, .sl .rat]]]), (6, false, [.lp 384 0]), (7, false, [.lp 448 0]), (8, false, [.d (.int .i64)]), (13, false, [.d (.int .i64)]), (14, false, [.d (.int .i64)]), (17, false, [.d (.int .i64)]), (18, false, [.d (.int .i64)])] 33 0, [(384, .box [.d (.int .i64), .d (.int .i64), .d (.sl .rat)]), (448, .box [.d (.int .i64), .d (.int .i64), .dp 2176]), (2176, .deep .rat)]⟩, [(.boxD 448 2, 2176, .rat)], [(.exit 2, ⟨mkSlots [(1, false, [.d (.int .i64)]), (2, false, [.fn 134 [[.int .i64, .int .i64, .sl .rat], [.int .i64, .int .i64, .sl .rat]]]), (6, false, [.lp 384 0]), (7, false, [.lp 448 0]), (13, false, [.d (.int .i64)]), (14, false, [.d (.int .i64)])] 33 0, [(384, .box [.d (.int .i64), .d (.int .i64), .d (.sl .rat)]), (448, .box [.d (.int .i64), .d (.int .i64), .dp 2176]), (2176, .deep .rat)]⟩, [(.boxD 448 2, 2176, .rat)])]⟩
noncomputable def S_q110_0_w (x : Tys D_q110_0.head.ks) : Option (OutT D_q110_0.outs) := @whileO (Int × Int × Int × (List Rt) × Int × Int × (List Rt) × Int × Int × Int × Int × (List Rt) × Int × Int × (List Rt) × Unit) (Int × Int × (List Rt) × Int × Int × (List Rt) × Unit) S_impl_built__impl_multiply_c1_0 x
noncomputable def S_q110_1_w (x : Tys D_q110_1.head.ks) : Option (OutT D_q110_1.outs) := @whileO (Int × Int × Int × (List Rt) × Int × Int × (List Rt) × Int × Int × Int × Int × Int × Int × Int × (List Rt) × Int × Int × (List Rt) × Unit) (Int × Int × Int × (List Rt) × Int × Int × (List Rt) × Int × Int × Int × Int × (List Rt) × Int × Int × (List Rt) × Unit) S_impl_built__impl_multiply_c1_1 x
noncomputable def E_q110 : Env := ⟨layD, [(134, c_q109)], [(3, mkLM D_q110_0 S_q110_0_w), (6, mkLM D_q110_1 S_q110_1_w)], [(8, [(0, []), (1, []), (2, []), (3, []), (4, []), (5, [2, 3, 4]), (6, [5, 2, 3, 4]), (7, [1, 6, 5, 0, 2, 3, 4]), (8, []), (9, [8, 7, 0, 1, 2, 3, 4, 5, 6])])]⟩
theorem cons_q110 : ConsOk Tryz.prog E_q110.cons := consOk_cons m_q109 (callable_of Tryz.func134 (by kernel_rfl)) (consOk_nil)
theorem S_q110_1_ok (x : Tys D_q110_1.head.ks) : stepL E_q110 D_q110_1 body_q110_1 x = S_impl_built__impl_multiply_c1_1 x := by kernel_rfl
theorem loops_q110_1 : loopsIn body_q110_1 = [] := by kernel_rfl
theorem l_q110_1 : LoopOk Tryz.prog (mkLM D_q110_1 S_q110_1_w) body_q110_1 := loop_ok2 mix layD_ok cons_q110 (by kernel_rfl) (loops_mem loops_q110_1 (trivial)) S_q110_1_ok fun _ _ h => h
theorem S_q110_0_ok (x : Tys D_q110_0.head.ks) : stepL E_q110 D_q110_0 body_q110_0 x = S_impl_built__impl_multiply_c1_0 x := by kernel_rfl
theorem loops_q110_0 : loopsIn body_q110_0 = [body_q110_1] := by kernel_rfl
theorem l_q110_0 : LoopOk Tryz.prog (mkLM D_q110_0 S_q110_0_w) body_q110_0 := loop_ok2 mix layD_ok cons_q110 (by kernel_rfl) (loops_mem loops_q110_0 (⟨⟨_, by kernel_rfl, l_q110_1⟩, trivial⟩)) S_q110_0_ok fun _ _ h => h
theorem loops_q110 : loopsIn code_q110 = [body_q110_0] := by kernel_rfl
theorem m_q110 : Meets Tryz.prog 76 c_q110 := meets_of (E := E_q110) (code := code_q110) mix layD_ok cons_q110 Tryz.func76 (by kernel_rfl) sg_q110 (by kernel_rfl) (fun y => (⟨y.1, y.2.1, y.2.2.1⟩ : Mx)) c_q110.out (fun _ => rfl) c_q110.run (fun x => by kernel_rfl) (by kernel_rfl) (loops_mem loops_q110 (⟨⟨_, by kernel_rfl, l_q110_0⟩, trivial⟩))
noncomputable def sg_q111 : Sig := ⟨[(true, [.d (.int .i64), .d (.int .i64), .dp 2])], [(2, .deep .rat)], true, [(true, [.d (.int .i64), .d (.int .i64), .dp 0]), (false, [.d (.bool)])], [(0, .deep .rat)]⟩
noncomputable def c_q111 : Con := ⟨sg_q111, Mx × Bool, fun x => M_impl_givenMatrix_c (⟨x.1, x.2.1, x.2.2.1⟩ : Mx), fun r => (r.1.rows, r.1.cols, r.2, r.1.cells, ())⟩
noncomputable def code_q111 : Code := Tryz.f133.body.getD .skip
noncomputable def E_q111 : Env := ⟨layD, [(123, c_q76)], [], []⟩
theorem cons_q111 : ConsOk Tryz.prog E_q111.cons := consOk_cons m_q76 (callable_of Tryz.func123 (by kernel_rfl)) (consOk_nil)
theorem loops_q111 : loopsIn code_q111 = [] := by kernel_rfl
theorem m_q111 : Meets Tryz.prog 133 c_q111 := meets_of (E := E_q111) (code := code_q111) mix layD_ok cons_q111 Tryz.func133 (by kernel_rfl) sg_q111 (by kernel_rfl) (fun y => ((⟨y.1, y.2.1, y.2.2.2.1⟩ : Mx), y.2.2.1)) c_q111.out (fun _ => rfl) c_q111.run (fun x => by kernel_rfl) (by kernel_rfl) (loops_mem loops_q111 (trivial))
noncomputable def sg_q112 : Sig := ⟨[(true, [.d (.int .i64), .d (.int .i64), .d (.sl .rat)]), (true, [.d (.int .i64), .d (.int .i64), .d (.sl .rat)])], [], true, [(true, [.d (.int .i64), .d (.int .i64), .dp 0]), (false, [.d (.bool)])], [(0, .deep .rat)]⟩
noncomputable def c_q112 : Con := ⟨sg_q112, Mx × Bool, fun x => M_impl_multiply (⟨x.1, x.2.1, x.2.2.1⟩ : Mx) (⟨x.2.2.2.1, x.2.2.2.2.1, x.2.2.2.2.2.1⟩ : Mx), fun r => (r.1.rows, r.1.cols, r.2, r.1.cells, ())⟩
noncomputable def code_q112 : Code := Tryz.f78.body.getD .skip
noncomputable def E_q112 : Env := ⟨layD, [(88, c_q107), (76, c_q110), (133, c_q111)], [], []⟩
theorem cons_q112 : ConsOk Tryz.prog E_q112.cons := consOk_cons m_q107 (callable_of Tryz.func88 (by kernel_rfl)) (consOk_cons m_q110 (callable_of Tryz.func76 (by kernel_rfl)) (consOk_cons m_q111 (callable_of Tryz.func133 (by kernel_rfl)) (consOk_nil)))
theorem loops_q112 : loopsIn code_q112 = [] := by kernel_rfl
theorem m_q112 : Meets Tryz.prog 78 c_q112 := meets_of (E := E_q112) (code := code_q112) mix layD_ok cons_q112 Tryz.func78 (by kernel_rfl) sg_q112 (by kernel_rfl) (fun y => ((⟨y.1, y.2.1, y.2.2.2.1⟩ : Mx), y.2.2.1)) c_q112.out (fun _ => rfl) c_q112.run (fun x => by kernel_rfl) (by kernel_rfl) (loops_mem loops_q112 (trivial))
noncomputable def sg_q113 : Sig := ⟨[(true, [.d (.int .i64), .d (.int .i64), .d (.sl .rat)]), (true, [.d (.int .i64), .d (.int .i64), .d (.sl .rat)])], [], true, [(true, [.d (.int .i64), .d (.int .i64), .dp 0]), (false, [.d (.bool)])], [(0, .deep .rat)]⟩
noncomputable def c_q113 : Con := ⟨sg_q113, Mx × Bool, fun x => M_impl_Multiply (⟨x.1, x.2.1, x.2.2.1⟩ : Mx) (⟨x.2.2.2.1, x.2.2.2.2.1, x.2.2.2.2.2.1⟩ : Mx), fun r => (r.1.rows, r.1.cols, r.2, r.1.cells, ())⟩
noncomputable def code_q113 : Code := Tryz.f22.body.getD .skip
noncomputable def E_q113 : Env := ⟨layD, [(64, c_q47), (78, c_q112)], [], []⟩
theorem cons_q113 : ConsOk Tryz.prog E_q113.cons := consOk_cons m_q47 (callable_of Tryz.func64 (by kernel_rfl)) (consOk_cons m_q112 (callable_of Tryz.func78 (by kernel_rfl)) (consOk_nil))
theorem loops_q113 : loopsIn code_q113 = [] := by kernel_rfl
theorem m_q113 : Meets Tryz.prog 22 c_q113 := meets_of (E := E_q113) (code := code_q113) mix layD_ok cons_q113 Tryz.func22 (by kernel_rfl) sg_q113 (by kernel_rfl) (fun y => ((⟨y.1, y.2.1, y.2.2.2.1⟩ : Mx), y.2.2.1)) c_q113.out (fun _ => rfl) c_q113.run (fun x => by kernel_rfl) (by kernel_rfl) (loops_mem loops_q113 (trivial))
noncomputable def sg_q114 : Sig := ⟨[(true, [.d (.int .i64), .d (.int .i64), .d (.sl .rat)]), (false, [.d (.sl .rat)])], [], true, [(false, [.dp 0]), (false, [.d (.bool)])], [(0, .deep .rat)]⟩
noncomputable def c_q114 : Con := ⟨sg_q114, List Rt × Bool, fun x => M_impl_applied (⟨x.1, x.2.1, x.2.2.1⟩ : Mx) x.2.2.2.1, fun r => (r.2, r.1, ())⟩
noncomputable def code_q114 : Code := Tryz.f79.body.getD .skip
noncomputable def body_q114_0 : Code := (loopsIn code_q114).getD 0 .skip
noncomputable def D_q114_0 : LoopD := ⟨⟨mkSlots [(1, false, [.d (.sl .rat)]), (2, false, [.lp 128 0]), (6, false, [.dp 1728]), (9, false, [.d (.int .i64)]), (10, false, [.d (.int .i64)])] 26 0, [(128, .box [.d (.int .i64), .d (.int .i64), .d (.sl .rat)]), (1728, .deep .rat)]⟩, [(.slotD 6 0, 1728, .rat)], [(.exit 0, ⟨mkSlots [(6, false, [.dp 1728])] 26 0, [(1728, .deep .rat)]⟩, [(.slotD 6 0, 1728, .rat)])]⟩
noncomputable def S_q114_0_w (x : Tys D_q114_0.head.ks) : Option (OutT D_q114_0.outs) := @whileO ((List Rt) × Int × Int × Int × Int × (List Rt) × (List Rt) × Unit) ((List Rt) × Unit) S_impl_applied_0 x
noncomputable def E_q114 : Env := ⟨layD, [(122, c_q67), (89, c_q108), (123, c_q76)], [(3, mkLM D_q114_0 S_q114_0_w)], []⟩
theorem cons_q114 : ConsOk Tryz.prog E_q114.cons := consOk_cons m_q67 (callable_of Tryz.func122 (by kernel_rfl)) (consOk_cons m_q108 (callable_of Tryz.func89 (by kernel_rfl)) (consOk_cons m_q76 (callable_of Tryz.func123 (by kernel_rfl)) (consOk_nil)))
theorem S_q114_0_ok (x : Tys D_q114_0.head.ks) : stepL E_q114 D_q114_0 body_q114_0 x = S_impl_applied_0 x := by kernel_rfl
theorem loops_q114_0 : loopsIn body_q114_0 = [] := by kernel_rfl
theorem l_q114_0 : LoopOk Tryz.prog (mkLM D_q114_0 S_q114_0_w) body_q114_0 := loop_ok2 mix layD_ok cons_q114 (by kernel_rfl) (loops_mem loops_q114_0 (trivial)) S_q114_0_ok fun _ _ h => h
theorem loops_q114 : loopsIn code_q114 = [body_q114_0] := by kernel_rfl
theorem m_q114 : Meets Tryz.prog 79 c_q114 := meets_of (E := E_q114) (code := code_q114) mix layD_ok cons_q114 Tryz.func79 (by kernel_rfl) sg_q114 (by kernel_rfl) (fun y => (y.2.1, y.1)) c_q114.out (fun _ => rfl) c_q114.run (fun x => by kernel_rfl) (by kernel_rfl) (loops_mem loops_q114 (⟨⟨_, by kernel_rfl, l_q114_0⟩, trivial⟩))
noncomputable def sg_q115 : Sig := ⟨[(true, [.d (.int .i64), .d (.int .i64), .d (.sl .rat)]), (false, [.d (.sl .rat)])], [], true, [(false, [.dp 0]), (false, [.d (.bool)])], [(0, .deep .rat)]⟩
noncomputable def c_q115 : Con := ⟨sg_q115, List Rt × Bool, fun x => M_impl_ApplyMatrix (⟨x.1, x.2.1, x.2.2.1⟩ : Mx) x.2.2.2.1, fun r => (r.2, r.1, ())⟩
noncomputable def code_q115 : Code := Tryz.f23.body.getD .skip
noncomputable def E_q115 : Env := ⟨layD, [(64, c_q47), (70, c_q92), (79, c_q114)], [], []⟩
theorem cons_q115 : ConsOk Tryz.prog E_q115.cons := consOk_cons m_q47 (callable_of Tryz.func64 (by kernel_rfl)) (consOk_cons m_q92 (callable_of Tryz.func70 (by kernel_rfl)) (consOk_cons m_q114 (callable_of Tryz.func79 (by kernel_rfl)) (consOk_nil)))
theorem loops_q115 : loopsIn code_q115 = [] := by kernel_rfl
theorem m_q115 : Meets Tryz.prog 23 c_q115 := meets_of (E := E_q115) (code := code_q115) mix layD_ok cons_q115 Tryz.func23 (by kernel_rfl) sg_q115 (by kernel_rfl) (fun y => (y.2.1, y.1)) c_q115.out (fun _ => rfl) c_q115.run (fun x => by kernel_rfl) (by kernel_rfl) (loops_mem loops_q115 (trivial))
noncomputable def sg_q116 : Sig := ⟨[(false, [.d (.sl .byte)])], [], false, [(false, [.d (.bool)])], []⟩
noncomputable def c_q116 : Con := ⟨sg_q116, Bool, fun x => M_laws_FnInverse x.1, fun r => (r, ())⟩
noncomputable def code_q116 : Code := Tryz.f3.body.getD .skip
noncomputable def E_q116 : Env := ⟨layD, [(12, c_q32), (13, c_q33), (14, c_q89), (15, c_q91), (16, c_q95), (17, c_q97), (18, c_q94), (20, c_q100), (21, c_q101), (19, c_q104), (22, c_q113), (23, c_q115), (24, c_q103)], [], [(15, [(0, []), (1, []), (2, []), (3, []), (4, []), (5, []), (6, []), (7, []), (8, []), (9, [7, 6, 4, 5, 3, 1, 2, 0]), (10, [8, 9, 7, 6, 4, 5, 3, 1, 2, 0]), (11, []), (12, []), (13, []), (14, []), (15, [13, 14, 12, 11, 10, 7, 8, 9, 6, 4, 5, 3, 1, 2, 0]), (16, []), (17, []), (18, []), (19, []), (20, [18, 19, 17, 16, 15, 12, 13, 14, 11, 10, 7, 8, 9, 6, 4, 5, 3, 1, 2, 0]), (21, []), (22, [21, 20, 0, 1, 2, 3, 4, 5, 6, 7, 8, 9, 10, 11, 12, 13, 14, 15, 16, 17, 18, 19])])]⟩
theorem cons_q116 : ConsOk Tryz.prog E_q116.cons := consOk_cons m_q32 (callable_of Tryz.func12 (by kernel_rfl)) (consOk_cons m_q33 (callable_of Tryz.func13 (by kernel_rfl)) (consOk_cons m_q89 (callable_of Tryz.func14 (by kernel_rfl)) (consOk_cons m_q91 (callable_of Tryz.func15 (by kernel_rfl)) (consOk_cons m_q95 (callable_of Tryz.func16 (by kernel_rfl)) (consOk_cons m_q97 (callable_of Tryz.func17 (by kernel_rfl)) (consOk_cons m_q94 (callable_of Tryz.func18 (by kernel_rfl)) (consOk_cons m_q100 (callable_of Tryz.func20 (by kernel_rfl)) (consOk_cons m_q101 (callable_of Tryz.func21 (by kernel_rfl)) (consOk_cons m_q104 (callable_of Tryz.func19 (by kernel_rfl)) (consOk_cons m_q113 (callable_of Tryz.func22 (by kernel_rfl)) (consOk_cons m_q115 (callable_of Tryz.func23 (by kernel_rfl)) (consOk_cons m_q103 (callable_of Tryz.func24 (by kernel_rfl)) (consOk_nil)))))))))))))
theorem loops_q116 : loopsIn code_q116 = [] := by kernel_rfl
theorem m_q116 : Meets Tryz.prog 3 c_q116 := meets_of (E := E_q116) (code := code_q116) mix layD_ok cons_q116 Tryz.func3 (by kernel_rfl) sg_q116 (by kernel_rfl) (fun y => y.1) c_q116.out (fun _ => rfl) c_q116.run (fun x => by kernel_rfl) (by kernel_rfl) (loops_mem loops_q116 (trivial))
end Go.Proofs.YtgimphipdnieaaaGreat.WInverse
