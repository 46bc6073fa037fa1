/-
  Own work: part 8 of the texts that the proof of the given statement leans on.
-/
import Derived.Test.YtgimphipdnieaaaGreatProg
import Derived.Test.YtgimphipdnieaaaGreatZFactorsP00
open Go Go.Di Go.Proofs
namespace Go.Proofs.YtgimphipdnieaaaGreat.WFactors
noncomputable def lay : List (TypeId × TI) := [
  (3, ⟨false, [.d (.int .i64 0)], [], none, some (.int .i64), false, false⟩),
  (4, ⟨false, [.d (.bool false)], [], none, some .bool, false, false⟩),
  (5, ⟨false, [.d (.int .u8 0)], [], none, some (.int .u8), false, false⟩),
  (22, ⟨false, [.mt], [], some .byte, none, false, false⟩),
  (23, ⟨false, [.mt], [], some .rat, none, false, false⟩),
  (25, ⟨true, [.d (.int .i64 0), .d (.int .i64 0), .mt], [(0, 1, false), (1, 1, false), (2, 1, false)], none, none, true, false⟩),
  (30, ⟨false, [.mt], [], some .int, none, false, false⟩),
  (32, ⟨true, [.d (.bool false), .mt], [(0, 1, false), (1, 1, false)], none, none, true, false⟩),
  (34, ⟨true, [.d (.bool false), .mt, .mt], [(0, 2, true), (2, 1, false)], none, none, true, false⟩),
  (123, ⟨true, [.mt, .d (.int .i64 0), .d (.int .i64 0)], [(0, 1, false), (1, 1, false), (2, 1, false)], none, none, true, false⟩)]
noncomputable def layD : List (TypeId × TI) := [
  (3, ⟨false, [.d (.int .i64 0)], [], none, some (.int .i64), false, false⟩),
  (4, ⟨false, [.d (.bool false)], [], none, some .bool, false, false⟩),
  (5, ⟨false, [.d (.int .u8 0)], [], none, some (.int .u8), false, false⟩),
  (22, ⟨false, [.mt], [], some .byte, none, false, false⟩),
  (23, ⟨false, [.mt], [], some .rat, none, false, true⟩),
  (25, ⟨true, [.d (.int .i64 0), .d (.int .i64 0), .mt], [(0, 1, false), (1, 1, false), (2, 1, false)], none, none, true, false⟩),
  (30, ⟨false, [.mt], [], some .int, none, false, false⟩),
  (32, ⟨true, [.d (.bool false), .mt], [(0, 1, false), (1, 1, false)], none, none, true, false⟩),
  (34, ⟨true, [.d (.bool false), .mt, .mt], [(0, 2, true), (2, 1, false)], none, none, true, false⟩),
  (123, ⟨true, [.mt, .d (.int .i64 0), .d (.int .i64 0)], [(0, 1, false), (1, 1, false), (2, 1, false)], none, none, true, false⟩)]
theorem lay_ok : LayOk Tryz.prog lay := layOk_ok (by kernel_rfl)
theorem layD_ok : LayOk Tryz.prog layD := layOk_ok (by kernel_rfl)
theorem mix : Tryz.prog.follows .mixedOrders = true := by kernel_rfl
noncomputable def sg_q1 : Sig := ⟨[(false, [.d (.sl .byte)])], [], false, [(false, [.lp 0 0])], [(0, .box [.d (.sl .byte), .d (.int .i64), .d (.int .i64)])]⟩
noncomputable def c_q1 : Con := ⟨sg_q1, Cur, fun x => M_spec_l01New x.1, fun r => (r.b, r.i, r.h, ())⟩
noncomputable def code_q1 : Code := Tryz.f82.body.getD .skip
noncomputable def body_q1_0 : Code := (loopsIn code_q1).getD 0 .skip
noncomputable def D_q1_0 : LoopD := ⟨⟨mkSlots [(0, false, [.d (.sl .byte)]), (3, false, [.d (.int .i64)]), (4, false, [.d (.int .i64)])] 32 0, []⟩, [], [(.exit 0, ⟨mkSlots [(0, false, [.d (.sl .byte)]), (3, false, [.d (.int .i64)])] 32 0, []⟩, [])]⟩
noncomputable def S_q1_0_w (x : Tys D_q1_0.head.ks) : Option (OutT D_q1_0.outs) := @whileO ((List Int) × Int × Int × Unit) ((List Int) × Int × Unit) S_spec_l01New_0 x
noncomputable def E_q1 : Env := ⟨layD, [], [(3, mkLM D_q1_0 S_q1_0_w)], []⟩
theorem cons_q1 : ConsOk Tryz.prog E_q1.cons := consOk_nil
theorem S_q1_0_ok (x : Tys D_q1_0.head.ks) : stepL E_q1 D_q1_0 body_q1_0 x = S_spec_l01New_0 x := by kernel_rfl
theorem loops_q1_0 : loopsIn body_q1_0 = [] := by kernel_rfl
theorem l_q1_0 : LoopOk Tryz.prog (mkLM D_q1_0 S_q1_0_w) body_q1_0 := loop_ok2 mix layD_ok cons_q1 (by kernel_rfl) (loops_mem loops_q1_0 (trivial)) S_q1_0_ok fun _ _ h => h
theorem loops_q1 : loopsIn code_q1 = [body_q1_0] := by kernel_rfl
theorem m_q1 : Meets Tryz.prog 82 c_q1 := meets_of (E := E_q1) (code := code_q1) mix layD_ok cons_q1 Tryz.func82 (by kernel_rfl) sg_q1 (by kernel_rfl) (fun y => (⟨y.1, y.2.1, y.2.2.1⟩ : Cur)) c_q1.out (fun _ => rfl) c_q1.run (fun x => by kernel_rfl) (by kernel_rfl) (loops_mem loops_q1 (⟨⟨_, by kernel_rfl, l_q1_0⟩, trivial⟩))
noncomputable def sg_q2 : Sig := ⟨[(false, [.lp 63 0])], [(63, .box [.d (.sl .byte), .d (.int .i64), .d (.int .i64)])], false, [(false, [.d (.int .i64)])], [(63, .box [.d (.sl .byte), .d (.int .i64), .d (.int .i64)])]⟩
noncomputable def c_q2 : Con := ⟨sg_q2, Int × Cur, fun x => M_spec_l01Byte (⟨x.1, x.2.1, x.2.2.1⟩ : Cur), fun r => (r.1, r.2.b, r.2.i, r.2.h, ())⟩
noncomputable def code_q2 : Code := Tryz.f116.body.getD .skip
noncomputable def E_q2 : Env := ⟨layD, [], [], [(2, [(0, []), (1, []), (2, []), (3, []), (4, []), (5, []), (6, []), (7, []), (8, []), (9, []), (10, []), (11, []), (12, [11, 0, 1, 2, 3, 4, 5, 6, 7, 8, 9, 10])]), (3, [(0, []), (1, []), (2, []), (3, []), (4, []), (5, []), (6, []), (7, []), (8, []), (9, [])]), (4, [(0, []), (1, []), (2, []), (3, []), (4, []), (5, []), (6, []), (7, []), (8, []), (9, []), (10, []), (11, []), (12, []), (13, []), (14, [13, 0, 1, 2, 3, 4, 5, 6, 7, 8, 9, 10, 11, 12])])]⟩
theorem cons_q2 : ConsOk Tryz.prog E_q2.cons := consOk_nil
theorem loops_q2 : loopsIn code_q2 = [] := by kernel_rfl
theorem m_q2 : Meets Tryz.prog 116 c_q2 := meets_of (E := E_q2) (code := code_q2) mix layD_ok cons_q2 Tryz.func116 (by kernel_rfl) sg_q2 (by kernel_rfl) (fun y => (y.1, (⟨y.2.1, y.2.2.1, y.2.2.2.1⟩ : Cur))) c_q2.out (fun _ => rfl) c_q2.run (fun x => by kernel_rfl) (by kernel_rfl) (loops_mem loops_q2 (trivial))
noncomputable def sg_q3 : Sig := ⟨[(false, [.lp 63 0]), (false, [.d (.int .i64)])], [(63, .box [.d (.sl .byte), .d (.int .i64), .d (.int .i64)])], false, [(false, [.d (.int .i64)])], [(63, .box [.d (.sl .byte), .d (.int .i64), .d (.int .i64)])]⟩
noncomputable def c_q3 : Con := ⟨sg_q3, Int × Cur, fun x => M_spec_l01Below (⟨x.2.1, x.2.2.1, x.2.2.2.1⟩ : Cur) x.1, fun r => (r.1, r.2.b, r.2.i, r.2.h, ())⟩
noncomputable def code_q3 : Code := Tryz.f140.body.getD .skip
noncomputable def E_q3 : Env := ⟨layD, [(116, c_q2)], [], []⟩
theorem cons_q3 : ConsOk Tryz.prog E_q3.cons := consOk_cons m_q2 (callable_of Tryz.func116 (by kernel_rfl)) (consOk_nil)
theorem loops_q3 : loopsIn code_q3 = [] := by kernel_rfl
theorem m_q3 : Meets Tryz.prog 140 c_q3 := meets_of (E := E_q3) (code := code_q3) mix layD_ok cons_q3 Tryz.func140 (by kernel_rfl) sg_q3 (by kernel_rfl) (fun y => (y.1, (⟨y.2.1, y.2.2.1, y.2.2.2.1⟩ : Cur))) c_q3.out (fun _ => rfl) c_q3.run (fun x => by kernel_rfl) (by kernel_rfl) (loops_mem loops_q3 (trivial))
noncomputable def sg_q4 : Sig := ⟨[(false, [.lp 63 0]), (false, [.d (.int .i64)])], [(63, .box [.d (.sl .byte), .d (.int .i64), .d (.int .i64)])], false, [(false, [.d (.bool)])], [(63, .box [.d (.sl .byte), .d (.int .i64), .d (.int .i64)])]⟩
noncomputable def c_q4 : Con := ⟨sg_q4, Bool × Cur, fun x => M_spec_l01Once (⟨x.2.1, x.2.2.1, x.2.2.2.1⟩ : Cur) x.1, fun r => (r.1, r.2.b, r.2.i, r.2.h, ())⟩
noncomputable def code_q4 : Code := Tryz.f167.body.getD .skip
noncomputable def E_q4 : Env := ⟨layD, [(140, c_q3)], [], []⟩
theorem cons_q4 : ConsOk Tryz.prog E_q4.cons := consOk_cons m_q3 (callable_of Tryz.func140 (by kernel_rfl)) (consOk_nil)
theorem loops_q4 : loopsIn code_q4 = [] := by kernel_rfl
theorem m_q4 : Meets Tryz.prog 167 c_q4 := meets_of (E := E_q4) (code := code_q4) mix layD_ok cons_q4 Tryz.func167 (by kernel_rfl) sg_q4 (by kernel_rfl) (fun y => (y.1, (⟨y.2.1, y.2.2.1, y.2.2.2.1⟩ : Cur))) c_q4.out (fun _ => rfl) c_q4.run (fun x => by kernel_rfl) (by kernel_rfl) (loops_mem loops_q4 (trivial))
noncomputable def sg_q5 : Sig := ⟨[(false, [.d (.sl .int)])], [], false, [(false, [.d (.sl .int)])], []⟩
noncomputable def c_q5 : Con := ⟨sg_q5, List Int, fun x => M_spec_l02Trim x.1, fun r => (r, ())⟩
noncomputable def code_q5 : Code := Tryz.f181.body.getD .skip
noncomputable def body_q5_0 : Code := (loopsIn code_q5).getD 0 .skip
noncomputable def D_q5_0 : LoopD := ⟨⟨mkSlots [(0, false, [.d (.sl .int)]), (3, false, [.d (.int .i64)])] 21 0, []⟩, [], [(.exit 0, ⟨mkSlots [(0, false, [.d (.sl .int)]), (3, false, [.d (.int .i64)])] 21 0, []⟩, [])]⟩
noncomputable def S_q5_0_w (x : Tys D_q5_0.head.ks) : Option (OutT D_q5_0.outs) := @whileO ((List Int) × Int × Unit) ((List Int) × Int × Unit) S_spec_l02Trim_0 x
noncomputable def E_q5 : Env := ⟨layD, [], [(2, mkLM D_q5_0 S_q5_0_w)], []⟩
theorem cons_q5 : ConsOk Tryz.prog E_q5.cons := consOk_nil
theorem S_q5_0_ok (x : Tys D_q5_0.head.ks) : stepL E_q5 D_q5_0 body_q5_0 x = S_spec_l02Trim_0 x := by kernel_rfl
theorem loops_q5_0 : loopsIn body_q5_0 = [] := by kernel_rfl
theorem l_q5_0 : LoopOk Tryz.prog (mkLM D_q5_0 S_q5_0_w) body_q5_0 := loop_ok2 mix layD_ok cons_q5 (by kernel_rfl) (loops_mem loops_q5_0 (trivial)) S_q5_0_ok fun _ _ h => h
theorem loops_q5 : loopsIn code_q5 = [body_q5_0] := by kernel_rfl
theorem m_q5 : Meets Tryz.prog 181 c_q5 := meets_of (E := E_q5) (code := code_q5) mix layD_ok cons_q5 Tryz.func181 (by kernel_rfl) sg_q5 (by kernel_rfl) (fun y => y.1) c_q5.out (fun _ => rfl) c_q5.run (fun x => by kernel_rfl) (by kernel_rfl) (loops_mem loops_q5 (⟨⟨_, by kernel_rfl, l_q5_0⟩, trivial⟩))
noncomputable def sg_q6 : Sig := ⟨[(false, [.d (.sl .int)])], [], false, [(false, [.d (.sl .int)])], []⟩
noncomputable def c_q6 : Con := ⟨sg_q6, List Int, fun x => M_spec_l02Cap x.1, fun r => (r, ())⟩
noncomputable def code_q6 : Code := Tryz.f185.body.getD .skip
noncomputable def E_q6 : Env := ⟨layD, [(181, c_q5)], [], []⟩
theorem cons_q6 : ConsOk Tryz.prog E_q6.cons := consOk_cons m_q5 (callable_of Tryz.func181 (by kernel_rfl)) (consOk_nil)
theorem loops_q6 : loopsIn code_q6 = [] := by kernel_rfl
theorem m_q6 : Meets Tryz.prog 185 c_q6 := meets_of (E := E_q6) (code := code_q6) mix layD_ok cons_q6 Tryz.func185 (by kernel_rfl) sg_q6 (by kernel_rfl) (fun y => y.1) c_q6.out (fun _ => rfl) c_q6.run (fun x => by kernel_rfl) (by kernel_rfl) (loops_mem loops_q6 (trivial))
noncomputable def sg_q7 : Sig := ⟨[(false, [.d (.bool)]), (false, [.d (.sl .int)])], [], false, [(true, [.d (.bool), .own 0])], [(0, .arr false .int)]⟩
noncomputable def c_q7 : Con := ⟨sg_q7, Bg, fun x => M_spec_l03Make x.1 x.2.1, fun r => (r.neg, r.mag, ())⟩
noncomputable def code_q7 : Code := Tryz.f165.body.getD .skip
noncomputable def E_q7 : Env := ⟨layD, [(185, c_q6)], [], []⟩
theorem cons_q7 : ConsOk Tryz.prog E_q7.cons := consOk_cons m_q6 (callable_of Tryz.func185 (by kernel_rfl)) (consOk_nil)
theorem loops_q7 : loopsIn code_q7 = [] := by kernel_rfl
theorem m_q7 : Meets Tryz.prog 165 c_q7 := meets_of (E := E_q7) (code := code_q7) mix layD_ok cons_q7 Tryz.func165 (by kernel_rfl) sg_q7 (by kernel_rfl) (fun y => (⟨y.1, y.2.1⟩ : Bg)) c_q7.out (fun _ => rfl) c_q7.run (fun x => by kernel_rfl) (by kernel_rfl) (loops_mem loops_q7 (trivial))
noncomputable def sg_q8 : Sig := ⟨[(false, [.d (.int .i64)])], [], false, [(false, [.own 0])], [(0, .arr false .int)]⟩
noncomputable def c_q8 : Con := ⟨sg_q8, List Int, fun x => M_spec_NatOf x.1, fun r => (r, ())⟩
noncomputable def code_q8 : Code := Tryz.f180.body.getD .skip
noncomputable def body_q8_0 : Code := (loopsIn code_q8).getD 0 .skip
noncomputable def D_q8_0 : LoopD := ⟨⟨mkSlots [(0, false, [.d (.int .i64)]), (3, false, [.own 1024])] 15 0, [(1024, .arr false .int)]⟩, [(.slot 3 0, 1024, .int)], [(.exit 0, ⟨mkSlots [(3, false, [.own 1024])] 15 0, [(1024, .arr false .int)]⟩, [(.slot 3 0, 1024, .int)])]⟩
noncomputable def S_q8_0_w (x : Tys D_q8_0.head.ks) : Option (OutT D_q8_0.outs) := @whileO (Int × (List Int) × Unit) ((List Int) × Unit) S_spec_NatOf_0 x
noncomputable def E_q8 : Env := ⟨layD, [], [(2, mkLM D_q8_0 S_q8_0_w)], []⟩
theorem cons_q8 : ConsOk Tryz.prog E_q8.cons := consOk_nil
theorem S_q8_0_ok (x : Tys D_q8_0.head.ks) : stepL E_q8 D_q8_0 body_q8_0 x = S_spec_NatOf_0 x := by kernel_rfl
theorem loops_q8_0 : loopsIn body_q8_0 = [] := by kernel_rfl
theorem l_q8_0 : LoopOk Tryz.prog (mkLM D_q8_0 S_q8_0_w) body_q8_0 := loop_ok2 mix layD_ok cons_q8 (by kernel_rfl) (loops_mem loops_q8_0 (trivial)) S_q8_0_ok fun _ _ h => h
theorem loops_q8 : loopsIn code_q8 = [body_q8_0] := by kernel_rfl
theorem m_q8 : Meets Tryz.prog 180 c_q8 := meets_of (E := E_q8) (code := code_q8) mix layD_ok cons_q8 Tryz.func180 (by kernel_rfl) sg_q8 (by kernel_rfl) (fun y => y.1) c_q8.out (fun _ => rfl) c_q8.run (fun x => by kernel_rfl) (by kernel_rfl) (loops_mem loops_q8 (⟨⟨_, by kernel_rfl, l_q8_0⟩, trivial⟩))
noncomputable def sg_q9 : Sig := ⟨[(false, [.d (.int .i64)])], [], false, [(true, [.d (.bool), .own 0])], [(0, .arr false .int)]⟩
noncomputable def c_q9 : Con := ⟨sg_q9, Bg, fun x => M_spec_BigIntOf x.1, fun r => (r.neg, r.mag, ())⟩
noncomputable def code_q9 : Code := Tryz.f152.body.getD .skip
noncomputable def E_q9 : Env := ⟨layD, [(165, c_q7), (180, c_q8)], [], []⟩
theorem cons_q9 : ConsOk Tryz.prog E_q9.cons := consOk_cons m_q7 (callable_of Tryz.func165 (by kernel_rfl)) (consOk_cons m_q8 (callable_of Tryz.func180 (by kernel_rfl)) (consOk_nil))
theorem loops_q9 : loopsIn code_q9 = [] := by kernel_rfl
theorem m_q9 : Meets Tryz.prog 152 c_q9 := meets_of (E := E_q9) (code := code_q9) mix layD_ok cons_q9 Tryz.func152 (by kernel_rfl) sg_q9 (by kernel_rfl) (fun y => (⟨y.1, y.2.1⟩ : Bg)) c_q9.out (fun _ => rfl) c_q9.run (fun x => by kernel_rfl) (by kernel_rfl) (loops_mem loops_q9 (trivial))
noncomputable def sg_q10 : Sig := ⟨[(false, [.d (.int .i64)]), (false, [.d (.int .i64)]), (false, [.d (.int .i64)])], [], false, [(false, [.d (.bool)])], []⟩
noncomputable def c_q10 : Con := ⟨sg_q10, Bool, fun x => M_spec_l01In x.1 x.2.1 x.2.2.1, fun r => (r, ())⟩
noncomputable def code_q10 : Code := Tryz.f146.body.getD .skip
noncomputable def E_q10 : Env := ⟨layD, [], [], []⟩
theorem cons_q10 : ConsOk Tryz.prog E_q10.cons := consOk_nil
theorem loops_q10 : loopsIn code_q10 = [] := by kernel_rfl
theorem m_q10 : Meets Tryz.prog 146 c_q10 := meets_of (E := E_q10) (code := code_q10) mix layD_ok cons_q10 Tryz.func146 (by kernel_rfl) sg_q10 (by kernel_rfl) (fun y => y.1) c_q10.out (fun _ => rfl) c_q10.run (fun x => by kernel_rfl) (by kernel_rfl) (loops_mem loops_q10 (trivial))
noncomputable def sg_q11 : Sig := ⟨[(false, [.d (.sl .int)])], [], false, [(false, [.d (.bool)])], []⟩
noncomputable def c_q11 : Con := ⟨sg_q11, Bool, fun x => M_spec_NatOk x.1, fun r => (r, ())⟩
noncomputable def code_q11 : Code := Tryz.f178.body.getD .skip
noncomputable def body_q11_0 : Code := (loopsIn code_q11).getD 0 .skip
noncomputable def D_q11_0 : LoopD := ⟨⟨mkSlots [(0, false, [.d (.sl .int)]), (5, false, [.d (.sl .int)]), (6, false, [.d (.int .i64)]), (7, false, [.d (.int .i64)])] 32 0, []⟩, [], [(.ret, ⟨mkSlots [(2, false, [.d (.bool)])] 32 0, []⟩, []), (.exit 0, ⟨mkSlots [(0, false, [.d (.sl .int)])] 32 0, []⟩, [])]⟩
noncomputable def S_q11_0_w (x : Tys D_q11_0.head.ks) : Option (OutT D_q11_0.outs) := @whileO ((List Int) × (List Int) × Int × Int × Unit) ((Bool × Unit) ⊕ ((List Int) × Unit)) S_spec_NatOk_0 x
noncomputable def E_q11 : Env := ⟨layD, [(146, c_q10)], [(2, mkLM D_q11_0 S_q11_0_w)], []⟩
theorem cons_q11 : ConsOk Tryz.prog E_q11.cons := consOk_cons m_q10 (callable_of Tryz.func146 (by kernel_rfl)) (consOk_nil)
theorem S_q11_0_ok (x : Tys D_q11_0.head.ks) : stepL E_q11 D_q11_0 body_q11_0 x = S_spec_NatOk_0 x := by kernel_rfl
theorem loops_q11_0 : loopsIn body_q11_0 = [] := by kernel_rfl
theorem l_q11_0 : LoopOk Tryz.prog (mkLM D_q11_0 S_q11_0_w) body_q11_0 := loop_ok2 mix layD_ok cons_q11 (by kernel_rfl) (loops_mem loops_q11_0 (trivial)) S_q11_0_ok fun _ _ h => h
theorem loops_q11 : loopsIn code_q11 = [body_q11_0] := by kernel_rfl
theorem m_q11 : Meets Tryz.prog 178 c_q11 := meets_of (E := E_q11) (code := code_q11) mix layD_ok cons_q11 Tryz.func178 (by kernel_rfl) sg_q11 (by kernel_rfl) (fun y => y.1) c_q11.out (fun _ => rfl) c_q11.run (fun x => by kernel_rfl) (by kernel_rfl) (loops_mem loops_q11 (⟨⟨_, by kernel_rfl, l_q11_0⟩, trivial⟩))
noncomputable def sg_q12 : Sig := ⟨[(true, [.d (.bool), .d (.sl .int)])], [], false, [(false, [.d (.bool)])], []⟩
noncomputable def c_q12 : Con := ⟨sg_q12, Bool, fun x => M_spec_BigIntOk (⟨x.1, x.2.1⟩ : Bg), fun r => (r, ())⟩
noncomputable def code_q12 : Code := Tryz.f177.body.getD .skip
noncomputable def E_q12 : Env := ⟨layD, [(178, c_q11)], [], []⟩
theorem cons_q12 : ConsOk Tryz.prog E_q12.cons := consOk_cons m_q11 (callable_of Tryz.func178 (by kernel_rfl)) (consOk_nil)
theorem loops_q12 : loopsIn code_q12 = [] := by kernel_rfl
theorem m_q12 : Meets Tryz.prog 177 c_q12 := meets_of (E := E_q12) (code := code_q12) mix layD_ok cons_q12 Tryz.func177 (by kernel_rfl) sg_q12 (by kernel_rfl) (fun y => y.1) c_q12.out (fun _ => rfl) c_q12.run (fun x => by kernel_rfl) (by kernel_rfl) (loops_mem loops_q12 (trivial))
noncomputable def sg_q13 : Sig := ⟨[(false, [.d (.sl .int)])], [], false, [(false, [.d (.bool)])], []⟩
noncomputable def c_q13 : Con := ⟨sg_q13, Bool, fun x => M_spec_l04One x.1, fun r => (r, ())⟩
noncomputable def code_q13 : Code := Tryz.f173.body.getD .skip
noncomputable def E_q13 : Env := ⟨layD, [], [], []⟩
theorem cons_q13 : ConsOk Tryz.prog E_q13.cons := consOk_nil
theorem loops_q13 : loopsIn code_q13 = [] := by kernel_rfl
theorem m_q13 : Meets Tryz.prog 173 c_q13 := meets_of (E := E_q13) (code := code_q13) mix layD_ok cons_q13 Tryz.func173 (by kernel_rfl) sg_q13 (by kernel_rfl) (fun y => y.1) c_q13.out (fun _ => rfl) c_q13.run (fun x => by kernel_rfl) (by kernel_rfl) (loops_mem loops_q13 (trivial))
noncomputable def sg_q14 : Sig := ⟨[(false, [.d (.sl .int)]), (false, [.d (.sl .int)])], [], false, [(false, [.d (.int .i64)])], []⟩
noncomputable def c_q14 : Con := ⟨sg_q14, Int, fun x => M_spec_l02Cmp x.1 x.2.1, fun r => (r, ())⟩
noncomputable def code_q14 : Code := Tryz.f191.body.getD .skip
noncomputable def body_q14_0 : Code := (loopsIn code_q14).getD 0 .skip
noncomputable def D_q14_0 : LoopD := ⟨⟨mkSlots [(0, false, [.d (.sl .int)]), (1, false, [.d (.sl .int)]), (5, false, [.d (.int .i64)])] 41 0, []⟩, [], [(.ret, ⟨mkSlots [(4, false, [.d (.int .i64)])] 41 0, []⟩, []), (.exit 0, ⟨mkSlots [] 41 0, []⟩, [])]⟩
noncomputable def S_q14_0_w (x : Tys D_q14_0.head.ks) : Option (OutT D_q14_0.outs) := @whileO ((List Int) × (List Int) × Int × Unit) ((Int × Unit) ⊕ (Unit)) S_spec_l02Cmp_0 x
noncomputable def E_q14 : Env := ⟨layD, [], [(6, mkLM D_q14_0 S_q14_0_w)], [(8, [(0, []), (1, []), (2, []), (3, []), (4, []), (5, []), (6, []), (7, []), (8, [])]), (10, [(0, []), (1, []), (2, []), (3, []), (4, []), (5, []), (6, []), (7, []), (8, [])])]⟩
theorem cons_q14 : ConsOk Tryz.prog E_q14.cons := consOk_nil
theorem S_q14_0_ok (x : Tys D_q14_0.head.ks) : stepL E_q14 D_q14_0 body_q14_0 x = S_spec_l02Cmp_0 x := by kernel_rfl
theorem loops_q14_0 : loopsIn body_q14_0 = [] := by kernel_rfl
theorem l_q14_0 : LoopOk Tryz.prog (mkLM D_q14_0 S_q14_0_w) body_q14_0 := loop_ok2 mix layD_ok cons_q14 (by kernel_rfl) (loops_mem loops_q14_0 (trivial)) S_q14_0_ok fun _ _ h => h
theorem loops_q14 : loopsIn code_q14 = [body_q14_0] := by kernel_rfl
theorem m_q14 : Meets Tryz.prog 191 c_q14 := meets_of (E := E_q14) (code := code_q14) mix layD_ok cons_q14 Tryz.func191 (by kernel_rfl) sg_q14 (by kernel_rfl) (fun y => y.1) c_q14.out (fun _ => rfl) c_q14.run (fun x => by kernel_rfl) (by kernel_rfl) (loops_mem loops_q14 (⟨⟨_, by kernel_rfl, l_q14_0⟩, trivial⟩))
noncomputable def sg_q15 : Sig := ⟨[(false, [.d (.sl .int)])], [], true, [(false, [.d (.int .i64)]), (false, [.d (.bool)])], []⟩
noncomputable def c_q15 : Con := ⟨sg_q15, Int × Bool, fun x => M_spec_NatToInt x.1, fun r => (r.1, r.2, ())⟩
noncomputable def code_q15 : Code := Tryz.f195.body.getD .skip
noncomputable def body_q15_0 : Code := (loopsIn code_q15).getD 0 .skip
noncomputable def D_q15_0 : LoopD := ⟨⟨mkSlots [(0, false, [.d (.sl .int)]), (4, false, [.d (.int .i64)]), (5, false, [.d (.int .i64)])] 30 0, []⟩, [], [(.exit 0, ⟨mkSlots [(4, false, [.d (.int .i64)])] 30 0, []⟩, [])]⟩
noncomputable def S_q15_0_w (x : Tys D_q15_0.head.ks) : Option (OutT D_q15_0.outs) := @whileO ((List Int) × Int × Int × Unit) (Int × Unit) S_spec_NatToInt_0 x
noncomputable def E_q15 : Env := ⟨layD, [(178, c_q11), (191, c_q14)], [(5, mkLM D_q15_0 S_q15_0_w)], []⟩
theorem cons_q15 : ConsOk Tryz.prog E_q15.cons := consOk_cons m_q11 (callable_of Tryz.func178 (by kernel_rfl)) (consOk_cons m_q14 (callable_of Tryz.func191 (by kernel_rfl)) (consOk_nil))
theorem S_q15_0_ok (x : Tys D_q15_0.head.ks) : stepL E_q15 D_q15_0 body_q15_0 x = S_spec_NatToInt_0 x := by kernel_rfl
theorem loops_q15_0 : loopsIn body_q15_0 = [] := by kernel_rfl
theorem l_q15_0 : LoopOk Tryz.prog (mkLM D_q15_0 S_q15_0_w) body_q15_0 := loop_ok2 mix layD_ok cons_q15 (by kernel_rfl) (loops_mem loops_q15_0 (trivial)) S_q15_0_ok fun _ _ h => h
theorem loops_q15 : loopsIn code_q15 = [body_q15_0] := by kernel_rfl
theorem m_q15 : Meets Tryz.prog 195 c_q15 := meets_of (E := E_q15) (code := code_q15) mix layD_ok cons_q15 Tryz.func195 (by kernel_rfl) sg_q15 (by kernel_rfl) (fun y => (y.1, y.2.1)) c_q15.out (fun _ => rfl) c_q15.run (fun x => by kernel_rfl) (by kernel_rfl) (loops_mem loops_q15 (⟨⟨_, by kernel_rfl, l_q15_0⟩, trivial⟩))
noncomputable def sg_q16 : Sig := ⟨[(false, [.d (.int .i64)]), (false, [.d (.int .i64)])], [], false, [(false, [.own 0])], [(0, .arr false .int)]⟩
noncomputable def c_q16 : Con := ⟨sg_q16, List Int, fun x => M_spec_l02Plain x.1 x.2.1, fun r => (r, ())⟩
noncomputable def code_q16 : Code := Tryz.f196.body.getD .skip
noncomputable def body_q16_0 : Code := (loopsIn code_q16).getD 0 .skip
noncomputable def D_q16_0 : LoopD := ⟨⟨mkSlots [(0, false, [.d (.int .i64)]), (1, false, [.d (.int .i64)])] 15 0, []⟩, [], [(.exit 0, ⟨mkSlots [(0, false, [.d (.int .i64)])] 15 0, []⟩, [])]⟩
noncomputable def S_q16_0_w (x : Tys D_q16_0.head.ks) : Option (OutT D_q16_0.outs) := @whileO (Int × Int × Unit) (Int × Unit) S_spec_l02Plain_0 x
noncomputable def E_q16 : Env := ⟨layD, [(180, c_q8)], [(1, mkLM D_q16_0 S_q16_0_w)], []⟩
theorem cons_q16 : ConsOk Tryz.prog E_q16.cons := consOk_cons m_q8 (callable_of Tryz.func180 (by kernel_rfl)) (consOk_nil)
theorem S_q16_0_ok (x : Tys D_q16_0.head.ks) : stepL E_q16 D_q16_0 body_q16_0 x = S_spec_l02Plain_0 x := by kernel_rfl
theorem loops_q16_0 : loopsIn body_q16_0 = [] := by kernel_rfl
theorem l_q16_0 : LoopOk Tryz.prog (mkLM D_q16_0 S_q16_0_w) body_q16_0 := loop_ok2 mix layD_ok cons_q16 (by kernel_rfl) (loops_mem loops_q16_0 (trivial)) S_q16_0_ok fun _ _ h => h
theorem loops_q16 : loopsIn code_q16 = [body_q16_0] := by kernel_rfl
theorem m_q16 : Meets Tryz.prog 196 c_q16 := meets_of (E := E_q16) (code := code_q16) mix layD_ok cons_q16 Tryz.func196 (by kernel_rfl) sg_q16 (by kernel_rfl) (fun y => y.1) c_q16.out (fun _ => rfl) c_q16.run (fun x => by kernel_rfl) (by kernel_rfl) (loops_mem loops_q16 (⟨⟨_, by kernel_rfl, l_q16_0⟩, trivial⟩))
noncomputable def sg_q17 : Sig := ⟨[(false, [.own 0])], [(0, .arr false .int)], false, [(false, [.own 0])], [(0, .arr false .int)]⟩
noncomputable def c_q17 : Con := ⟨sg_q17, List Int, fun x => M_spec_l02Trim_c x.1, fun r => (r, ())⟩
noncomputable def code_q17 : Code := Tryz.f181.body.getD .skip
noncomputable def body_q17_0 : Code := (loopsIn code_q17).getD 0 .skip
noncomputable def D_q17_0 : LoopD := ⟨⟨mkSlots [(0, false, [.own 1408]), (3, false, [.d (.int .i64)])] 21 0, [(1408, .arr false .int)]⟩, [], [(.exit 0, ⟨mkSlots [(0, false, [.own 1408]), (3, false, [.d (.int .i64)])] 21 0, [(1408, .arr false .int)]⟩, [])]⟩
noncomputable def S_q17_0_w (x : Tys D_q17_0.head.ks) : Option (OutT D_q17_0.outs) := @whileO (Int × (List Int) × Unit) (Int × (List Int) × Unit) S_spec_l02Trim_c_0 x
noncomputable def E_q17 : Env := ⟨layD, [], [(2, mkLM D_q17_0 S_q17_0_w)], []⟩
theorem cons_q17 : ConsOk Tryz.prog E_q17.cons := consOk_nil
theorem S_q17_0_ok (x : Tys D_q17_0.head.ks) : stepL E_q17 D_q17_0 body_q17_0 x = S_spec_l02Trim_c_0 x := by kernel_rfl
theorem loops_q17_0 : loopsIn body_q17_0 = [] := by kernel_rfl
theorem l_q17_0 : LoopOk Tryz.prog (mkLM D_q17_0 S_q17_0_w) body_q17_0 := loop_ok2 mix layD_ok cons_q17 (by kernel_rfl) (loops_mem loops_q17_0 (trivial)) S_q17_0_ok fun _ _ h => h
theorem loops_q17 : loopsIn code_q17 = [body_q17_0] := by kernel_rfl
theorem m_q17 : Meets Tryz.prog 181 c_q17 := meets_of (E := E_q17) (code := code_q17) mix layD_ok cons_q17 Tryz.func181 (by kernel_rfl) sg_q17 (by kernel_rfl) (fun y => y.1) c_q17.out (fun _ => rfl) c_q17.run (fun x => by kernel_rfl) (by kernel_rfl) (loops_mem loops_q17 (⟨⟨_, by kernel_rfl, l_q17_0⟩, trivial⟩))
noncomputable def sg_q18 : Sig := ⟨[(false, [.d (.sl .int)]), (false, [.d (.int .i64)])], [], true, [(false, [.own 0]), (false, [.d (.int .i64)])], [(0, .arr false .int)]⟩
noncomputable def c_q18 : Con := ⟨sg_q18, List Int × Int, fun x => M_spec_l02Small x.1 x.2.1, fun r => (r.2, r.1, ())⟩
noncomputable def code_q18 : Code := Tryz.f197.body.getD .skip
noncomputable def body_q18_0 : Code := (loopsIn code_q18).getD 0 .skip
noncomputable def D_q18_0 : LoopD := ⟨⟨mkSlots [(0, false, [.d (.sl .int)]), (1, false, [.d (.int .i64)]), (6, false, [.own 2560]), (7, false, [.d (.int .i64)]), (8, false, [.d (.int .i64)])] 39 0, [(2560, .arr false .int)]⟩, [], [(.exit 0, ⟨mkSlots [(6, false, [.own 2560]), (7, false, [.d (.int .i64)])] 39 0, [(2560, .arr false .int)]⟩, [])]⟩
noncomputable def S_q18_0_w (x : Tys D_q18_0.head.ks) : Option (OutT D_q18_0.outs) := @whileO ((List Int) × Int × Int × Int × (List Int) × Unit) (Int × (List Int) × Unit) S_spec_l02Small_0 x
noncomputable def E_q18 : Env := ⟨layD, [(181, c_q17)], [(4, mkLM D_q18_0 S_q18_0_w)], []⟩
theorem cons_q18 : ConsOk Tryz.prog E_q18.cons := consOk_cons m_q17 (callable_of Tryz.func181 (by kernel_rfl)) (consOk_nil)
theorem S_q18_0_ok (x : Tys D_q18_0.head.ks) : stepL E_q18 D_q18_0 body_q18_0 x = S_spec_l02Small_0 x := by kernel_rfl
theorem loops_q18_0 : loopsIn body_q18_0 = [] := by kernel_rfl
theorem l_q18_0 : LoopOk Tryz.prog (mkLM D_q18_0 S_q18_0_w) body_q18_0 := loop_ok2 mix layD_ok cons_q18 (by kernel_rfl) (loops_mem loops_q18_0 (trivial)) S_q18_0_ok fun _ _ h => h
theorem loops_q18 : loopsIn code_q18 = [body_q18_0] := by kernel_rfl
theorem m_q18 : Meets Tryz.prog 197 c_q18 := meets_of (E := E_q18) (code := code_q18) mix layD_ok cons_q18 Tryz.func197 (by kernel_rfl) sg_q18 (by kernel_rfl) (fun y => (y.2.1, y.1)) c_q18.out (fun _ => rfl) c_q18.run (fun x => by kernel_rfl) (by kernel_rfl) (loops_mem loops_q18 (⟨⟨_, by kernel_rfl, l_q18_0⟩, trivial⟩))
noncomputable def sg_q19 : Sig := ⟨[(false, [.d (.sl .int)]), (false, [.d (.sl .int)])], [], false, [(false, [.own 0])], [(0, .arr false .int)]⟩
noncomputable def c_q19 : Con := ⟨sg_q19, List Int, fun x => M_spec_l02Mul x.1 x.2.1, fun r => (r, ())⟩
noncomputable def code_q19 : Code := Tryz.f154.body.getD .skip
noncomputable def body_q19_0 : Code := (loopsIn code_q19).getD 0 .skip
noncomputable def body_q19_1 : Code := (loopsIn body_q19_0).getD 0 .skip
noncomputable def D_q19_0 : LoopD := ⟨⟨mkSlots [(1, false, [.d (.sl .int)]), (5, false, [.own 4672]), (26, false, [.d (.sl .int)]), (27, false, [.d (.int .i64)]), (28, false, [.d (.int .i64)])] 72 0, [(4672, .arr false .int)]⟩, [], [(.exit 0, ⟨mkSlots [(5, false, [.own 4672])] 72 0, [(4672, .arr false .int)]⟩, [])]⟩
noncomputable def D_q19_1 : LoopD := ⟨⟨mkSlots [(1, false, [.d (.sl .int)]), (5, false, [.own 4672]), (6, false, [.d (.int .i64)]), (7, false, [.d (.int .i64)]), (8, false, [.d (.int .i64)]), (26, false, [.d (.sl .int)]), (27, false, [.d (.int .i64)]), (28, false, [.d (.int .i64)]), (33, false, [.d (.sl .int)]), (34, false, [.d (.int .i64)]), (35, false, [.d (.int .i64)])] 72 0, [(4672, .arr false .int)]⟩, [], [(.exit 2, ⟨mkSlots [(1, false, [.d (.sl .int)]), (5, false, [.own 4672]), (6, false, [.d (.int .i64)]), (8, false, [.d (.int .i64)]), (26, false, [.d (.sl .int)]), (27, false, [.d (.int .i64)]), (28, false, [.d (.int .i64)])] 72 0, [(4672, .arr false .int)]⟩, [])]⟩
noncomputable def S_q19_0_w (x : Tys D_q19_0.head.ks) : Option (OutT D_q19_0.outs) := @whileO ((List Int) × (List Int) × Int × Int × (List Int) × Unit) ((List Int) × Unit) S_spec_l02Mul_0 x
noncomputable def S_q19_1_w (x : Tys D_q19_1.head.ks) : Option (OutT D_q19_1.outs) := @whileO ((List Int) × Int × Int × Int × (List Int) × Int × Int × (List Int) × Int × Int × (List Int) × Unit) ((List Int) × Int × Int × (List Int) × Int × Int × (List Int) × Unit) S_spec_l02Mul_1 x
noncomputable def E_q19 : Env := ⟨layD, [(181, c_q17)], [(5, mkLM D_q19_0 S_q19_0_w), (9, mkLM D_q19_1 S_q19_1_w)], []⟩
theorem cons_q19 : ConsOk Tryz.prog E_q19.cons := consOk_cons m_q17 (callable_of Tryz.func181 (by kernel_rfl)) (consOk_nil)
theorem S_q19_1_ok (x : Tys D_q19_1.head.ks) : stepL E_q19 D_q19_1 body_q19_1 x = S_spec_l02Mul_1 x := by kernel_rfl
theorem loops_q19_1 : loopsIn body_q19_1 = [] := by kernel_rfl
theorem l_q19_1 : LoopOk Tryz.prog (mkLM D_q19_1 S_q19_1_w) body_q19_1 := loop_ok2 mix layD_ok cons_q19 (by kernel_rfl) (loops_mem loops_q19_1 (trivial)) S_q19_1_ok fun _ _ h => h
theorem S_q19_0_ok (x : Tys D_q19_0.head.ks) : stepL E_q19 D_q19_0 body_q19_0 x = S_spec_l02Mul_0 x := by kernel_rfl
theorem loops_q19_0 : loopsIn body_q19_0 = [body_q19_1] := by kernel_rfl
theorem l_q19_0 : LoopOk Tryz.prog (mkLM D_q19_0 S_q19_0_w) body_q19_0 := loop_ok2 mix layD_ok cons_q19 (by kernel_rfl) (loops_mem loops_q19_0 (⟨⟨_, by kernel_rfl, l_q19_1⟩, trivial⟩)) S_q19_0_ok fun _ _ h => h
theorem loops_q19 : loopsIn code_q19 = [body_q19_0] := by kernel_rfl
theorem m_q19 : Meets Tryz.prog 154 c_q19 := meets_of (E := E_q19) (code := code_q19) mix layD_ok cons_q19 Tryz.func154 (by kernel_rfl) sg_q19 (by kernel_rfl) (fun y => y.1) c_q19.out (fun _ => rfl) c_q19.run (fun x => by kernel_rfl) (by kernel_rfl) (loops_mem loops_q19 (⟨⟨_, by kernel_rfl, l_q19_0⟩, trivial⟩))
noncomputable def sg_q20 : Sig := ⟨[(false, [.d (.sl .int)]), (false, [.d (.sl .int)])], [], false, [(false, [.d (.int .i64)])], []⟩
noncomputable def c_q20 : Con := ⟨sg_q20, Int, fun x => M_spec_l02Digit x.1 x.2.1, fun r => (r, ())⟩
noncomputable def code_q20 : Code := Tryz.f198.body.getD .skip
noncomputable def body_q20_0 : Code := (loopsIn code_q20).getD 0 .skip
noncomputable def D_q20_0 : LoopD := ⟨⟨mkSlots [(0, false, [.d (.sl .int)]), (1, false, [.d (.sl .int)]), (5, false, [.d (.int .i64)]), (6, false, [.d (.int .i64)])] 27 0, []⟩, [], [(.exit 0, ⟨mkSlots [(5, false, [.d (.int .i64)])] 27 0, []⟩, [])]⟩
noncomputable def S_q20_0_w (x : Tys D_q20_0.head.ks) : Option (OutT D_q20_0.outs) := @whileO ((List Int) × (List Int) × Int × Int × Unit) (Int × Unit) S_spec_l02Digit_0 x
noncomputable def E_q20 : Env := ⟨layD, [(180, c_q8), (154, c_q19), (191, c_q14)], [(3, mkLM D_q20_0 S_q20_0_w)], []⟩
theorem cons_q20 : ConsOk Tryz.prog E_q20.cons := consOk_cons m_q8 (callable_of Tryz.func180 (by kernel_rfl)) (consOk_cons m_q19 (callable_of Tryz.func154 (by kernel_rfl)) (consOk_cons m_q14 (callable_of Tryz.func191 (by kernel_rfl)) (consOk_nil)))
theorem S_q20_0_ok (x : Tys D_q20_0.head.ks) : stepL E_q20 D_q20_0 body_q20_0 x = S_spec_l02Digit_0 x := by kernel_rfl
theorem loops_q20_0 : loopsIn body_q20_0 = [] := by kernel_rfl
theorem l_q20_0 : LoopOk Tryz.prog (mkLM D_q20_0 S_q20_0_w) body_q20_0 := loop_ok2 mix layD_ok cons_q20 (by kernel_rfl) (loops_mem loops_q20_0 (trivial)) S_q20_0_ok fun _ _ h => h
theorem loops_q20 : loopsIn code_q20 = [body_q20_0] := by kernel_rfl
theorem m_q20 : Meets Tryz.prog 198 c_q20 := meets_of (E := E_q20) (code := code_q20) mix layD_ok cons_q20 Tryz.func198 (by kernel_rfl) sg_q20 (by kernel_rfl) (fun y => y.1) c_q20.out (fun _ => rfl) c_q20.run (fun x => by kernel_rfl) (by kernel_rfl) (loops_mem loops_q20 (⟨⟨_, by kernel_rfl, l_q20_0⟩, trivial⟩))
noncomputable def sg_q21 : Sig := ⟨[(false, [.d (.sl .int)]), (false, [.d (.sl .int)])], [], false, [(false, [.own 0])], [(0, .arr false .int)]⟩
noncomputable def c_q21 : Con := ⟨sg_q21, List Int, fun x => M_spec_l02Sub x.1 x.2.1, fun r => (r, ())⟩
noncomputable def code_q21 : Code := Tryz.f192.body.getD .skip
noncomputable def body_q21_0 : Code := (loopsIn code_q21).getD 0 .skip
noncomputable def D_q21_0 : LoopD := ⟨⟨mkSlots [(0, false, [.d (.sl .int)]), (1, false, [.d (.sl .int)]), (5, false, [.own 2752]), (6, false, [.d (.int .i64)]), (11, false, [.d (.int .i64)]), (12, false, [.d (.int .i64)])] 42 0, [(2752, .arr false .int)]⟩, [(.slot 5 0, 2752, .int)], [(.exit 0, ⟨mkSlots [(5, false, [.own 2752])] 42 0, [(2752, .arr false .int)]⟩, [(.slot 5 0, 2752, .int)])]⟩
noncomputable def S_q21_0_w (x : Tys D_q21_0.head.ks) : Option (OutT D_q21_0.outs) := @whileO ((List Int) × (List Int) × Int × Int × Int × (List Int) × Unit) ((List Int) × Unit) S_spec_l02Sub_0 x
noncomputable def E_q21 : Env := ⟨layD, [(181, c_q17)], [(4, mkLM D_q21_0 S_q21_0_w)], []⟩
theorem cons_q21 : ConsOk Tryz.prog E_q21.cons := consOk_cons m_q17 (callable_of Tryz.func181 (by kernel_rfl)) (consOk_nil)
theorem S_q21_0_ok (x : Tys D_q21_0.head.ks) : stepL E_q21 D_q21_0 body_q21_0 x = S_spec_l02Sub_0 x := by kernel_rfl
theorem loops_q21_0 : loopsIn body_q21_0 = [] := by kernel_rfl
theorem l_q21_0 : LoopOk Tryz.prog (mkLM D_q21_0 S_q21_0_w) body_q21_0 := loop_ok2 mix layD_ok cons_q21 (by kernel_rfl) (loops_mem loops_q21_0 (trivial)) S_q21_0_ok fun _ _ h => h
theorem loops_q21 : loopsIn code_q21 = [body_q21_0] := by kernel_rfl
theorem m_q21 : Meets Tryz.prog 192 c_q21 := meets_of (E := E_q21) (code := code_q21) mix layD_ok cons_q21 Tryz.func192 (by kernel_rfl) sg_q21 (by kernel_rfl) (fun y => y.1) c_q21.out (fun _ => rfl) c_q21.run (fun x => by kernel_rfl) (by kernel_rfl) (loops_mem loops_q21 (⟨⟨_, by kernel_rfl, l_q21_0⟩, trivial⟩))
noncomputable def sg_q22 : Sig := ⟨[(false, [.d (.sl .int)]), (false, [.d (.sl .int)])], [], true, [(false, [.own 0]), (false, [.own 1])], [(0, .arr false .int), (1, .arr false .int)]⟩
noncomputable def c_q22 : Con := ⟨sg_q22, List Int × List Int, fun x => M_spec_l02Div x.1 x.2.1, fun r => (r.1, r.2, ())⟩
noncomputable def code_q22 : Code := Tryz.f182.body.getD .skip
noncomputable def body_q22_0 : Code := (loopsIn code_q22).getD 0 .skip
noncomputable def D_q22_0 : LoopD := ⟨⟨mkSlots [(0, false, [.d (.sl .int)]), (1, false, [.d (.sl .int)]), (8, false, [.own 4224]), (9, false, [.own 4288]), (10, false, [.d (.int .i64)])] 65 0, [(4224, .arr false .int), (4288, .arr false .int)]⟩, [(.slot 9 0, 4288, .int)], [(.exit 0, ⟨mkSlots [(8, false, [.own 4224]), (9, false, [.own 4288])] 65 0, [(4224, .arr false .int), (4288, .arr false .int)]⟩, [(.slot 9 0, 4288, .int)])]⟩
noncomputable def S_q22_0_w (x : Tys D_q22_0.head.ks) : Option (OutT D_q22_0.outs) := @whileO ((List Int) × (List Int) × Int × (List Int) × (List Int) × Unit) ((List Int) × (List Int) × Unit) S_spec_l02Div_0 x
noncomputable def E_q22 : Env := ⟨layD, [(197, c_q18), (180, c_q8), (181, c_q17), (191, c_q14), (198, c_q20), (154, c_q19), (192, c_q21)], [(7, mkLM D_q22_0 S_q22_0_w)], []⟩
theorem cons_q22 : ConsOk Tryz.prog E_q22.cons := consOk_cons m_q18 (callable_of Tryz.func197 (by kernel_rfl)) (consOk_cons m_q8 (callable_of Tryz.func180 (by kernel_rfl)) (consOk_cons m_q17 (callable_of Tryz.func181 (by kernel_rfl)) (consOk_cons m_q14 (callable_of Tryz.func191 (by kernel_rfl)) (consOk_cons m_q20 (callable_of Tryz.func198 (by kernel_rfl)) (consOk_cons m_q19 (callable_of Tryz.func154 (by kernel_rfl)) (consOk_cons m_q21 (callable_of Tryz.func192 (by kernel_rfl)) (consOk_nil)))))))
theorem S_q22_0_ok (x : Tys D_q22_0.head.ks) : stepL E_q22 D_q22_0 body_q22_0 x = S_spec_l02Div_0 x := by kernel_rfl
theorem loops_q22_0 : loopsIn body_q22_0 = [] := by kernel_rfl
theorem l_q22_0 : LoopOk Tryz.prog (mkLM D_q22_0 S_q22_0_w) body_q22_0 := loop_ok2 mix layD_ok cons_q22 (by kernel_rfl) (loops_mem loops_q22_0 (trivial)) S_q22_0_ok fun _ _ h => h
theorem loops_q22 : loopsIn code_q22 = [body_q22_0] := by kernel_rfl
theorem m_q22 : Meets Tryz.prog 182 c_q22 := meets_of (E := E_q22) (code := code_q22) mix layD_ok cons_q22 Tryz.func182 (by kernel_rfl) sg_q22 (by kernel_rfl) (fun y => (y.1, y.2.1)) c_q22.out (fun _ => rfl) c_q22.run (fun x => by kernel_rfl) (by kernel_rfl) (loops_mem loops_q22 (⟨⟨_, by kernel_rfl, l_q22_0⟩, trivial⟩))
noncomputable def sg_q23 : Sig := ⟨[(false, [.d (.sl .int)]), (false, [.d (.sl .int)])], [], false, [(false, [.own 0])], [(0, .arr false .int)]⟩
noncomputable def c_q23 : Con := ⟨sg_q23, List Int, fun x => M_spec_l02Gcd x.1 x.2.1, fun r => (r, ())⟩
noncomputable def code_q23 : Code := Tryz.f179.body.getD .skip
noncomputable def body_q23_0 : Code := (loopsIn code_q23).getD 0 .skip
noncomputable def D_q23_0 : LoopD := ⟨⟨mkSlots [(5, false, [.own 3392]), (6, false, [.own 3456])] 52 0, [(3392, .arr false .int), (3456, .arr false .int)]⟩, [], [(.ret, ⟨mkSlots [(4, false, [.own 3520])] 52 0, [(3520, .arr false .int)]⟩, []), (.exit 0, ⟨mkSlots [(5, false, [.own 3392])] 52 0, [(3392, .arr false .int)]⟩, [])]⟩
noncomputable def S_q23_0_w (x : Tys D_q23_0.head.ks) : Option (OutT D_q23_0.outs) := @whileO ((List Int) × (List Int) × Unit) (((List Int) × Unit) ⊕ ((List Int) × Unit)) S_spec_l02Gcd_0 x
noncomputable def E_q23 : Env := ⟨layD, [(195, c_q15), (196, c_q16), (182, c_q22)], [(3, mkLM D_q23_0 S_q23_0_w)], []⟩
theorem cons_q23 : ConsOk Tryz.prog E_q23.cons := consOk_cons m_q15 (callable_of Tryz.func195 (by kernel_rfl)) (consOk_cons m_q16 (callable_of Tryz.func196 (by kernel_rfl)) (consOk_cons m_q22 (callable_of Tryz.func182 (by kernel_rfl)) (consOk_nil)))
theorem S_q23_0_ok (x : Tys D_q23_0.head.ks) : stepL E_q23 D_q23_0 body_q23_0 x = S_spec_l02Gcd_0 x := by kernel_rfl
theorem loops_q23_0 : loopsIn body_q23_0 = [] := by kernel_rfl
theorem l_q23_0 : LoopOk Tryz.prog (mkLM D_q23_0 S_q23_0_w) body_q23_0 := loop_ok2 mix layD_ok cons_q23 (by kernel_rfl) (loops_mem loops_q23_0 (trivial)) S_q23_0_ok fun _ _ h => h
theorem loops_q23 : loopsIn code_q23 = [body_q23_0] := by kernel_rfl
theorem m_q23 : Meets Tryz.prog 179 c_q23 := meets_of (E := E_q23) (code := code_q23) mix layD_ok cons_q23 Tryz.func179 (by kernel_rfl) sg_q23 (by kernel_rfl) (fun y => y.1) c_q23.out (fun _ => rfl) c_q23.run (fun x => by kernel_rfl) (by kernel_rfl) (loops_mem loops_q23 (⟨⟨_, by kernel_rfl, l_q23_0⟩, trivial⟩))
noncomputable def sg_q24 : Sig := ⟨[(false, [.d (.bool)]), (false, [.d (.sl .int)]), (false, [.d (.sl .int)])], [], false, [(true, [.d (.bool), .own 0, .own 1])], [(0, .arr false .int), (1, .arr false .int)]⟩
noncomputable def c_q24 : Con := ⟨sg_q24, Rt, fun x => M_spec_l04Low x.1 x.2.1 x.2.2.1, fun r => (r.neg, r.mag, r.den, ())⟩
noncomputable def code_q24 : Code := Tryz.f153.body.getD .skip
noncomputable def E_q24 : Env := ⟨layD, [(181, c_q5), (173, c_q13), (179, c_q23), (182, c_q22), (165, c_q7)], [], []⟩
theorem cons_q24 : ConsOk Tryz.prog E_q24.cons := consOk_cons m_q5 (callable_of Tryz.func181 (by kernel_rfl)) (consOk_cons m_q13 (callable_of Tryz.func173 (by kernel_rfl)) (consOk_cons m_q23 (callable_of Tryz.func179 (by kernel_rfl)) (consOk_cons m_q22 (callable_of Tryz.func182 (by kernel_rfl)) (consOk_cons m_q7 (callable_of Tryz.func165 (by kernel_rfl)) (consOk_nil)))))
theorem loops_q24 : loopsIn code_q24 = [] := by kernel_rfl
theorem m_q24 : Meets Tryz.prog 153 c_q24 := meets_of (E := E_q24) (code := code_q24) mix layD_ok cons_q24 Tryz.func153 (by kernel_rfl) sg_q24 (by kernel_rfl) (fun y => (⟨y.1, y.2.1, y.2.2.1⟩ : Rt)) c_q24.out (fun _ => rfl) c_q24.run (fun x => by kernel_rfl) (by kernel_rfl) (loops_mem loops_q24 (trivial))
noncomputable def sg_q25 : Sig := ⟨[(true, [.d (.bool), .d (.sl .int)]), (true, [.d (.bool), .d (.sl .int)])], [], false, [(true, [.d (.bool), .own 0, .own 1])], [(0, .arr false .int), (1, .arr false .int)]⟩
noncomputable def c_q25 : Con := ⟨sg_q25, Rt, fun x => M_spec_RatMake (⟨x.1, x.2.1⟩ : Bg) (⟨x.2.2.1, x.2.2.2.1⟩ : Bg), fun r => (r.neg, r.mag, r.den, ())⟩
noncomputable def code_q25 : Code := Tryz.f175.body.getD .skip
noncomputable def E_q25 : Env := ⟨layD, [(177, c_q12), (153, c_q24)], [], []⟩
theorem cons_q25 : ConsOk Tryz.prog E_q25.cons := consOk_cons m_q12 (callable_of Tryz.func177 (by kernel_rfl)) (consOk_cons m_q24 (callable_of Tryz.func153 (by kernel_rfl)) (consOk_nil))
theorem loops_q25 : loopsIn code_q25 = [] := by kernel_rfl
theorem m_q25 : Meets Tryz.prog 175 c_q25 := meets_of (E := E_q25) (code := code_q25) mix layD_ok cons_q25 Tryz.func175 (by kernel_rfl) sg_q25 (by kernel_rfl) (fun y => (⟨y.1, y.2.1, y.2.2.1⟩ : Rt)) c_q25.out (fun _ => rfl) c_q25.run (fun x => by kernel_rfl) (by kernel_rfl) (loops_mem loops_q25 (trivial))
noncomputable def sg_q26 : Sig := ⟨[(false, [.d (.int .i64)]), (false, [.d (.int .i64)])], [], false, [(true, [.d (.bool), .own 0, .own 1])], [(0, .arr false .int), (1, .arr false .int)]⟩
noncomputable def c_q26 : Con := ⟨sg_q26, Rt, fun x => M_spec_RatOf x.1 x.2.1, fun r => (r.neg, r.mag, r.den, ())⟩
noncomputable def code_q26 : Code := Tryz.f139.body.getD .skip
noncomputable def E_q26 : Env := ⟨layD, [(152, c_q9), (175, c_q25)], [], []⟩
theorem cons_q26 : ConsOk Tryz.prog E_q26.cons := consOk_cons m_q9 (callable_of Tryz.func152 (by kernel_rfl)) (consOk_cons m_q25 (callable_of Tryz.func175 (by kernel_rfl)) (consOk_nil))
theorem loops_q26 : loopsIn code_q26 = [] := by kernel_rfl
theorem m_q26 : Meets Tryz.prog 139 c_q26 := meets_of (E := E_q26) (code := code_q26) mix layD_ok cons_q26 Tryz.func139 (by kernel_rfl) sg_q26 (by kernel_rfl) (fun y => (⟨y.1, y.2.1, y.2.2.1⟩ : Rt)) c_q26.out (fun _ => rfl) c_q26.run (fun x => by kernel_rfl) (by kernel_rfl) (loops_mem loops_q26 (trivial))
noncomputable def sg_q27 : Sig := ⟨[(false, [.d (.int .i64)])], [], false, [(true, [.d (.bool), .own 0, .own 1])], [(0, .arr false .int), (1, .arr false .int)]⟩
noncomputable def c_q27 : Con := ⟨sg_q27, Rt, fun x => M_spec_RatFromInt x.1, fun r => (r.neg, r.mag, r.den, ())⟩
noncomputable def code_q27 : Code := Tryz.f97.body.getD .skip
noncomputable def E_q27 : Env := ⟨layD, [(152, c_q9)], [], []⟩
theorem cons_q27 : ConsOk Tryz.prog E_q27.cons := consOk_cons m_q9 (callable_of Tryz.func152 (by kernel_rfl)) (consOk_nil)
theorem loops_q27 : loopsIn code_q27 = [] := by kernel_rfl
theorem m_q27 : Meets Tryz.prog 97 c_q27 := meets_of (E := E_q27) (code := code_q27) mix layD_ok cons_q27 Tryz.func97 (by kernel_rfl) sg_q27 (by kernel_rfl) (fun y => (⟨y.1, y.2.1, y.2.2.1⟩ : Rt)) c_q27.out (fun _ => rfl) c_q27.run (fun x => by kernel_rfl) (by kernel_rfl) (loops_mem loops_q27 (trivial))
noncomputable def sg_q28 : Sig := ⟨[(false, [.lp 63 0])], [(63, .box [.d (.sl .byte), .d (.int .i64), .d (.int .i64)])], false, [(true, [.d (.bool), .own 0, .own 1])], [(0, .arr false .int), (1, .arr false .int), (63, .box [.d (.sl .byte), .d (.int .i64), .d (.int .i64)])]⟩
noncomputable def c_q28 : Con := ⟨sg_q28, Rt × Cur, fun x => M_spec_l05Number (⟨x.1, x.2.1, x.2.2.1⟩ : Cur), fun r => (r.1.neg, r.1.mag, r.1.den, r.2.b, r.2.i, r.2.h, ())⟩
noncomputable def code_q28 : Code := Tryz.f117.body.getD .skip
noncomputable def E_q28 : Env := ⟨layD, [(167, c_q4), (140, c_q3), (139, c_q26), (97, c_q27)], [], []⟩
theorem cons_q28 : ConsOk Tryz.prog E_q28.cons := consOk_cons m_q4 (callable_of Tryz.func167 (by kernel_rfl)) (consOk_cons m_q3 (callable_of Tryz.func140 (by kernel_rfl)) (consOk_cons m_q26 (callable_of Tryz.func139 (by kernel_rfl)) (consOk_cons m_q27 (callable_of Tryz.func97 (by kernel_rfl)) (consOk_nil))))
theorem loops_q28 : loopsIn code_q28 = [] := by kernel_rfl
theorem m_q28 : Meets Tryz.prog 117 c_q28 := meets_of (E := E_q28) (code := code_q28) mix layD_ok cons_q28 Tryz.func117 (by kernel_rfl) sg_q28 (by kernel_rfl) (fun y => ((⟨y.1, y.2.1, y.2.2.1⟩ : Rt), (⟨y.2.2.2.1, y.2.2.2.2.1, y.2.2.2.2.2.1⟩ : Cur))) c_q28.out (fun _ => rfl) c_q28.run (fun x => by kernel_rfl) (by kernel_rfl) (loops_mem loops_q28 (trivial))
noncomputable def sg_q98 : Sig := ⟨[(false, [.lp 63 0]), (false, [.d (.int .i64)])], [(63, .box [.d (.sl .byte), .d (.int .i64), .d (.int .i64)])], false, [(false, [.own 0])], [(0, .arr false .rat), (63, .box [.d (.sl .byte), .d (.int .i64), .d (.int .i64)])]⟩
noncomputable def c_q98 : Con := ⟨sg_q98, List Rt × Cur, fun x => M_spec_l05Draw (⟨x.2.1, x.2.2.1, x.2.2.2.1⟩ : Cur) x.1, fun r => (r.1, r.2.b, r.2.i, r.2.h, ())⟩
noncomputable def code_q98 : Code := Tryz.f63.body.getD .skip
noncomputable def body_q98_0 : Code := (loopsIn code_q98).getD 0 .skip
noncomputable def D_q98_0 : LoopD := ⟨⟨mkSlots [(0, false, [.lp 63 0]), (1, false, [.d (.int .i64)]), (5, false, [.own 1152])] 17 0, [(63, .box [.d (.sl .byte), .d (.int .i64), .d (.int .i64)]), (1152, .arr false .rat)]⟩, [(.slot 5 0, 1152, .rat)], [(.exit 0, ⟨mkSlots [(5, false, [.own 1152])] 17 0, [(63, .box [.d (.sl .byte), .d (.int .i64), .d (.int .i64)]), (1152, .arr false .rat)]⟩, [(.slot 5 0, 1152, .rat)])]⟩
noncomputable def S_q98_0_w (x : Tys D_q98_0.head.ks) : Option (OutT D_q98_0.outs) := @whileO (Int × (List Int) × Int × Int × (List Rt) × Unit) ((List Int) × Int × Int × (List Rt) × Unit) S_spec_l05Draw_0 x
noncomputable def E_q98 : Env := ⟨lay, [(117, c_q28)], [(2, mkLM D_q98_0 S_q98_0_w)], []⟩
theorem cons_q98 : ConsOk Tryz.prog E_q98.cons := consOk_cons m_q28 (callable_of Tryz.func117 (by kernel_rfl)) (consOk_nil)
theorem S_q98_0_ok (x : Tys D_q98_0.head.ks) : stepL E_q98 D_q98_0 body_q98_0 x = S_spec_l05Draw_0 x := by kernel_rfl
theorem loops_q98_0 : loopsIn body_q98_0 = [] := by kernel_rfl
theorem l_q98_0 : LoopOk Tryz.prog (mkLM D_q98_0 S_q98_0_w) body_q98_0 := loop_ok2 mix lay_ok cons_q98 (by kernel_rfl) (loops_mem loops_q98_0 (trivial)) S_q98_0_ok fun _ _ h => h
theorem loops_q98 : loopsIn code_q98 = [body_q98_0] := by kernel_rfl
theorem m_q98 : Meets Tryz.prog 63 c_q98 := meets_of (E := E_q98) (code := code_q98) mix lay_ok cons_q98 Tryz.func63 (by kernel_rfl) sg_q98 (by kernel_rfl) (fun y => (y.1, (⟨y.2.1, y.2.2.1, y.2.2.2.1⟩ : Cur))) c_q98.out (fun _ => rfl) c_q98.run (fun x => by kernel_rfl) (by kernel_rfl) (loops_mem loops_q98 (⟨⟨_, by kernel_rfl, l_q98_0⟩, trivial⟩))
noncomputable def sg_q99 : Sig := ⟨[(false, [.lp 63 0]), (false, [.d (.int .i64)]), (false, [.d (.int .i64)])], [(63, .box [.d (.sl .byte), .d (.int .i64), .d (.int .i64)])], false, [(true, [.d (.int .i64), .d (.int .i64), .own 0])], [(0, .arr false .rat), (63, .box [.d (.sl .byte), .d (.int .i64), .d (.int .i64)])]⟩
noncomputable def c_q99 : Con := ⟨sg_q99, Mx × Cur, fun x => M_spec_l06Draw (⟨x.2.2.1, x.2.2.2.1, x.2.2.2.2.1⟩ : Cur) x.1 x.2.1, fun r => (r.1.rows, r.1.cols, r.1.cells, r.2.b, r.2.i, r.2.h, ())⟩
noncomputable def code_q99 : Code := Tryz.f61.body.getD .skip
noncomputable def E_q99 : Env := ⟨lay, [(63, c_q98)], [], []⟩
theorem cons_q99 : ConsOk Tryz.prog E_q99.cons := consOk_cons m_q98 (callable_of Tryz.func63 (by kernel_rfl)) (consOk_nil)
theorem loops_q99 : loopsIn code_q99 = [] := by kernel_rfl
theorem m_q99 : Meets Tryz.prog 61 c_q99 := meets_of (E := E_q99) (code := code_q99) mix lay_ok cons_q99 Tryz.func61 (by kernel_rfl) sg_q99 (by kernel_rfl) (fun y => ((⟨y.1, y.2.1, y.2.2.1⟩ : Mx), (⟨y.2.2.2.1, y.2.2.2.2.1, y.2.2.2.2.2.1⟩ : Cur))) c_q99.out (fun _ => rfl) c_q99.run (fun x => by kernel_rfl) (by kernel_rfl) (loops_mem loops_q99 (trivial))
noncomputable def sg_q101 : Sig := ⟨[(true, [.d (.int .i64), .d (.int .i64), .own 191]), (false, [.d (.int .i64)]), (false, [.d (.int .i64)])], [(191, .arr false .rat)], false, [(true, [.d (.bool), .d (.sl .int), .d (.sl .int)])], [(191, .arr false .rat)]⟩
noncomputable def c_q101 : Con := ⟨sg_q101, Rt × List Rt, fun x => M_spec_l06At_mdd (⟨x.1, x.2.1, x.2.2.2.2.1⟩ : Mx) x.2.2.1 x.2.2.2.1, fun r => (r.1.neg, r.1.mag, r.1.den, r.2, ())⟩
noncomputable def code_q101 : Code := Tryz.f113.body.getD .skip
noncomputable def E_q101 : Env := ⟨layD, [], [], []⟩
theorem cons_q101 : ConsOk Tryz.prog E_q101.cons := consOk_nil
theorem loops_q101 : loopsIn code_q101 = [] := by kernel_rfl
theorem m_q101 : Meets Tryz.prog 113 c_q101 := meets_of (E := E_q101) (code := code_q101) mix layD_ok cons_q101 Tryz.func113 (by kernel_rfl) sg_q101 (by kernel_rfl) (fun y => ((⟨y.1, y.2.1, y.2.2.1⟩ : Rt), y.2.2.2.1)) c_q101.out (fun _ => rfl) c_q101.run (fun x => by kernel_rfl) (by kernel_rfl) (loops_mem loops_q101 (trivial))
noncomputable def sg_q32 : Sig := ⟨[(true, [.d (.bool), .d (.sl .int), .d (.sl .int)])], [], false, [(true, [.d (.bool), .own 0, .own 1])], [(0, .arr false .int), (1, .arr false .int)]⟩
noncomputable def c_q32 : Con := ⟨sg_q32, Rt, fun x => M_spec_l04Copy (⟨x.1, x.2.1, x.2.2.1⟩ : Rt), fun r => (r.neg, r.mag, r.den, ())⟩
noncomputable def code_q32 : Code := Tryz.f158.body.getD .skip
noncomputable def E_q32 : Env := ⟨layD, [], [], [(1, [(0, []), (1, []), (2, []), (3, []), (4, []), (5, []), (6, []), (9, []), (10, []), (11, []), (7, [3, 6, 5, 4]), (8, []), (12, [9, 11, 7, 10, 3, 6, 5, 4]), (13, []), (14, [13, 12, 0, 1, 2, 3, 4, 5, 6, 7, 8, 9, 10, 11])])]⟩
theorem cons_q32 : ConsOk Tryz.prog E_q32.cons := consOk_nil
theorem loops_q32 : loopsIn code_q32 = [] := by kernel_rfl
theorem m_q32 : Meets Tryz.prog 158 c_q32 := meets_of (E := E_q32) (code := code_q32) mix layD_ok cons_q32 Tryz.func158 (by kernel_rfl) sg_q32 (by kernel_rfl) (fun y => (⟨y.1, y.2.1, y.2.2.1⟩ : Rt)) c_q32.out (fun _ => rfl) c_q32.run (fun x => by kernel_rfl) (by kernel_rfl) (loops_mem loops_q32 (trivial))
noncomputable def sg_q102 : Sig := ⟨[(true, [.d (.int .i64), .d (.int .i64), .own 191])], [(191, .arr false .rat)], false, [(true, [.d (.int .i64), .d (.int .i64), .own 0])], [(0, .arr false .rat), (191, .arr false .rat)]⟩
noncomputable def c_q102 : Con := ⟨sg_q102, Mx × List Rt, fun x => M_spec_l06Transpose_m (⟨x.1, x.2.1, x.2.2.1⟩ : Mx), fun r => (r.1.rows, r.1.cols, r.1.cells, r.2, ())⟩
noncomputable def code_q102 : Code := Tryz.f137.body.getD .skip
noncomputable def body_q102_0 : Code := (loopsIn code_q102).getD 0 .skip
noncomputable def body_q102_1 : Code := (loopsIn body_q102_0).getD 0 .skip
noncomputable def D_q102_0 : LoopD := ⟨⟨mkSlots [(1, false, [.lp 64 0]), (2, false, [.lp 128 0]), (3, false, [.lp 192 0]), (4, false, [.d (.int .i64)])] 34 0, [(64, .box [.d (.int .i64), .d (.int .i64), .own 191]), (128, .box [.d (.int .i64), .d (.int .i64), .d (.sl .rat)]), (191, .arr false .rat), (192, .box [.d (.int .i64), .d (.int .i64), .own 2240]), (2240, .arr false .rat)]⟩, [(.box 192 2, 2240, .rat)], [(.exit 0, ⟨mkSlots [(2, false, [.lp 128 0]), (3, false, [.lp 192 0])] 34 0, [(128, .box [.d (.int .i64), .d (.int .i64), .d (.sl .rat)]), (191, .arr false .rat), (192, .box [.d (.int .i64), .d (.int .i64), .own 2240]), (2240, .arr false .rat)]⟩, [(.box 192 2, 2240, .rat)])]⟩
noncomputable def D_q102_1 : LoopD := ⟨⟨mkSlots [(1, false, [.lp 64 0]), (2, false, [.lp 128 0]), (3, false, [.lp 192 0]), (4, false, [.d (.int .i64)]), (5, false, [.d (.int .i64)])] 34 0, [(64, .box [.d (.int .i64), .d (.int .i64), .own 191]), (128, .box [.d (.int .i64), .d (.int .i64), .d (.sl .rat)]), (191, .arr false .rat), (192, .box [.d (.int .i64), .d (.int .i64), .own 2240]), (2240, .arr false .rat)]⟩, [(.box 192 2, 2240, .rat)], [(.exit 2, ⟨mkSlots [(1, false, [.lp 64 0]), (2, false, [.lp 128 0]), (3, false, [.lp 192 0]), (4, false, [.d (.int .i64)])] 34 0, [(64, .box [.d (.int .i64), .d (.int .i64), .own 191]), (128, .box [.d (.int .i64), .d (.int .i64), .d (.sl .rat)]), (191, .arr false .rat), (192, .box [.d (.int .i64), .d (.int .i64), .own 2240]), (2240, .arr false .rat)]⟩, [(.box 192 2, 2240, .rat)])]⟩
noncomputable def S_q102_0_w (x : Tys D_q102_0.head.ks) : Option (OutT D_q102_0.outs) := @whileO (Int × Int × Int × Int × Int × (List Rt) × (List Rt) × Int × Int × (List Rt) × Unit) (Int × Int × (List Rt) × (List Rt) × Int × Int × (List Rt) × Unit) S_spec_l06Transpose_m_0 x
noncomputable def S_q102_1_w (x : Tys D_q102_1.head.ks) : Option (OutT D_q102_1.outs) := @whileO (Int × Int × Int × Int × Int × Int × (List Rt) × (List Rt) × Int × Int × (List Rt) × Unit) (Int × Int × Int × Int × Int × (List Rt) × (List Rt) × Int × Int × (List Rt) × Unit) S_spec_l06Transpose_m_1 x
noncomputable def E_q102 : Env := ⟨lay, [(113, c_q101), (158, c_q32)], [(3, mkLM D_q102_0 S_q102_0_w), (6, mkLM D_q102_1 S_q102_1_w)], [(8, [(0, []), (1, []), (2, []), (3, []), (4, []), (5, [2, 3, 4]), (6, [5, 2, 3, 4]), (7, [6, 5, 2, 3, 4]), (8, [1, 7, 6, 0, 5, 2, 3, 4]), (9, []), (10, [9, 8, 0, 1, 2, 3, 4, 5, 6, 7])])]⟩
theorem cons_q102 : ConsOk Tryz.prog E_q102.cons := consOk_cons m_q101 (callable_of Tryz.func113 (by kernel_rfl)) (consOk_cons m_q32 (callable_of Tryz.func158 (by kernel_rfl)) (consOk_nil))
theorem S_q102_1_ok (x : Tys D_q102_1.head.ks) : stepL E_q102 D_q102_1 body_q102_1 x = S_spec_l06Transpose_m_1 x := by kernel_rfl
theorem loops_q102_1 : loopsIn body_q102_1 = [] := by kernel_rfl
theorem l_q102_1 : LoopOk Tryz.prog (mkLM D_q102_1 S_q102_1_w) body_q102_1 := loop_ok2 mix lay_ok cons_q102 (by kernel_rfl) (loops_mem loops_q102_1 (trivial)) S_q102_1_ok fun _ _ h => h
theorem S_q102_0_ok (x : Tys D_q102_0.head.ks) : stepL E_q102 D_q102_0 body_q102_0 x = S_spec_l06Transpose_m_0 x := by kernel_rfl
theorem loops_q102_0 : loopsIn body_q102_0 = [body_q102_1] := by kernel_rfl
theorem l_q102_0 : LoopOk Tryz.prog (mkLM D_q102_0 S_q102_0_w) body_q102_0 := loop_ok2 mix lay_ok cons_q102 (by kernel_rfl) (loops_mem loops_q102_0 (⟨⟨_, by kernel_rfl, l_q102_1⟩, trivial⟩)) S_q102_0_ok fun _ _ h => h
theorem loops_q102 : loopsIn code_q102 = [body_q102_0] := by kernel_rfl
theorem m_q102 : Meets Tryz.prog 137 c_q102 := meets_of (E := E_q102) (code := code_q102) mix lay_ok cons_q102 Tryz.func137 (by kernel_rfl) sg_q102 (by kernel_rfl) (fun y => ((⟨y.1, y.2.1, y.2.2.1⟩ : Mx), y.2.2.2.1)) c_q102.out (fun _ => rfl) c_q102.run (fun x => by kernel_rfl) (by kernel_rfl) (loops_mem loops_q102 (⟨⟨_, by kernel_rfl, l_q102_0⟩, trivial⟩))
noncomputable def sg_q103 : Sig := ⟨[(true, [.d (.int .i64), .d (.int .i64), .own 191]), (false, [.d (.int .i64)])], [(191, .arr false .rat)], false, [(false, [.win 191])], [(191, .arr false .rat)]⟩
noncomputable def c_q103 : Con := ⟨sg_q103, (Nat × Nat) × List Rt, fun x => M_spec_l06Row_md (⟨x.1, x.2.1, x.2.2.2.1⟩ : Mx) x.2.2.1, fun r => (r.1.1, r.1.2, r.2, ())⟩
noncomputable def code_q103 : Code := Tryz.f164.body.getD .skip
noncomputable def E_q103 : Env := ⟨lay, [], [], []⟩
theorem cons_q103 : ConsOk Tryz.prog E_q103.cons := consOk_nil
theorem loops_q103 : loopsIn code_q103 = [] := by kernel_rfl
theorem m_q103 : Meets Tryz.prog 164 c_q103 := meets_of (E := E_q103) (code := code_q103) mix lay_ok cons_q103 Tryz.func164 (by kernel_rfl) sg_q103 (by kernel_rfl) (fun y => ((y.1, y.2.1), y.2.2.1)) c_q103.out (fun _ => rfl) c_q103.run (fun x => by kernel_rfl) (by kernel_rfl) (loops_mem loops_q103 (trivial))
noncomputable def sg_q35 : Sig := ⟨[], [], false, [(true, [.d (.bool), .own 0, .own 1])], [(0, .arr false .int), (1, .arr false .int)]⟩
noncomputable def c_q35 : Con := ⟨sg_q35, Rt, fun _ => M_spec_l05Zero, fun r => (r.neg, r.mag, r.den, ())⟩
noncomputable def code_q35 : Code := Tryz.f96.body.getD .skip
noncomputable def E_q35 : Env := ⟨layD, [(97, c_q27)], [], []⟩
theorem cons_q35 : ConsOk Tryz.prog E_q35.cons := consOk_cons m_q27 (callable_of Tryz.func97 (by kernel_rfl)) (consOk_nil)
theorem loops_q35 : loopsIn code_q35 = [] := by kernel_rfl
theorem m_q35 : Meets Tryz.prog 96 c_q35 := meets_of (E := E_q35) (code := code_q35) mix layD_ok cons_q35 Tryz.func96 (by kernel_rfl) sg_q35 (by kernel_rfl) (fun y => (⟨y.1, y.2.1, y.2.2.1⟩ : Rt)) c_q35.out (fun _ => rfl) c_q35.run (fun x => by kernel_rfl) (by kernel_rfl) (loops_mem loops_q35 (trivial))
noncomputable def sg_q36 : Sig := ⟨[(true, [.d (.bool), .d (.sl .int), .d (.sl .int)])], [], false, [(false, [.d (.bool)])], []⟩
noncomputable def c_q36 : Con := ⟨sg_q36, Bool, fun x => M_spec_l05Nil (⟨x.1, x.2.1, x.2.2.1⟩ : Rt), fun r => (r, ())⟩
noncomputable def code_q36 : Code := Tryz.f149.body.getD .skip
noncomputable def E_q36 : Env := ⟨layD, [], [], []⟩
theorem cons_q36 : ConsOk Tryz.prog E_q36.cons := consOk_nil
theorem loops_q36 : loopsIn code_q36 = [] := by kernel_rfl
theorem m_q36 : Meets Tryz.prog 149 c_q36 := meets_of (E := E_q36) (code := code_q36) mix layD_ok cons_q36 Tryz.func149 (by kernel_rfl) sg_q36 (by kernel_rfl) (fun y => y.1) c_q36.out (fun _ => rfl) c_q36.run (fun x => by kernel_rfl) (by kernel_rfl) (loops_mem loops_q36 (trivial))
noncomputable def sg_q37 : Sig := ⟨[(true, [.d (.bool), .d (.sl .int), .d (.sl .int)])], [], false, [(false, [.d (.bool)])], []⟩
noncomputable def c_q37 : Con := ⟨sg_q37, Bool, fun x => M_spec_l05Bad (⟨x.1, x.2.1, x.2.2.1⟩ : Rt), fun r => (r, ())⟩
noncomputable def code_q37 : Code := Tryz.f99.body.getD .skip
noncomputable def E_q37 : Env := ⟨layD, [], [], []⟩
theorem cons_q37 : ConsOk Tryz.prog E_q37.cons := consOk_nil
theorem loops_q37 : loopsIn code_q37 = [] := by kernel_rfl
theorem m_q37 : Meets Tryz.prog 99 c_q37 := meets_of (E := E_q37) (code := code_q37) mix layD_ok cons_q37 Tryz.func99 (by kernel_rfl) sg_q37 (by kernel_rfl) (fun y => y.1) c_q37.out (fun _ => rfl) c_q37.run (fun x => by kernel_rfl) (by kernel_rfl) (loops_mem loops_q37 (trivial))
noncomputable def sg_q38 : Sig := ⟨[(true, [.d (.bool), .d (.sl .int), .d (.sl .int)]), (true, [.d (.bool), .d (.sl .int), .d (.sl .int)])], [], false, [(true, [.d (.bool), .own 0, .own 1])], [(0, .arr false .int), (1, .arr false .int)]⟩
noncomputable def c_q38 : Con := ⟨sg_q38, Rt, fun x => M_spec_l04Mul (⟨x.1, x.2.1, x.2.2.1⟩ : Rt) (⟨x.2.2.2.1, x.2.2.2.2.1, x.2.2.2.2.2.1⟩ : Rt), fun r => (r.neg, r.mag, r.den, ())⟩
noncomputable def code_q38 : Code := Tryz.f98.body.getD .skip
noncomputable def E_q38 : Env := ⟨layD, [(154, c_q19), (153, c_q24)], [], [(1, [(0, []), (1, []), (2, []), (3, []), (4, []), (5, []), (6, []), (7, []), (8, []), (9, []), (10, []), (11, []), (12, []), (14, []), (15, []), (16, []), (17, []), (13, [9, 12, 8, 11, 7, 10]), (18, [15, 17, 13, 14, 16, 9, 12, 8, 11, 7, 10]), (19, [6, 13, 18, 2, 5, 9, 12, 15, 17, 1, 4, 8, 11, 14, 16, 0, 3, 7, 10]), (20, [19, 0, 1, 2, 3, 4, 5, 6, 7, 8, 9, 10, 11, 12, 13, 14, 15, 16, 17, 18])])]⟩
theorem cons_q38 : ConsOk Tryz.prog E_q38.cons := consOk_cons m_q19 (callable_of Tryz.func154 (by kernel_rfl)) (consOk_cons m_q24 (callable_of Tryz.func153 (by kernel_rfl)) (consOk_nil))
theorem loops_q38 : loopsIn code_q38 = [] := by kernel_rfl
theorem m_q38 : Meets Tryz.prog 98 c_q38 := meets_of (E := E_q38) (code := code_q38) mix layD_ok cons_q38 Tryz.func98 (by kernel_rfl) sg_q38 (by kernel_rfl) (fun y => (⟨y.1, y.2.1, y.2.2.1⟩ : Rt)) c_q38.out (fun _ => rfl) c_q38.run (fun x => by kernel_rfl) (by kernel_rfl) (loops_mem loops_q38 (trivial))
noncomputable def sg_q39 : Sig := ⟨[(false, [.d (.sl .int)]), (false, [.d (.sl .int)])], [], false, [(false, [.own 0])], [(0, .arr false .int)]⟩
noncomputable def c_q39 : Con := ⟨sg_q39, List Int, fun x => M_spec_l02Add x.1 x.2.1, fun r => (r, ())⟩
noncomputable def code_q39 : Code := Tryz.f190.body.getD .skip
noncomputable def body_q39_0 : Code := (loopsIn code_q39).getD 0 .skip
noncomputable def D_q39_0 : LoopD := ⟨⟨mkSlots [(0, false, [.d (.sl .int)]), (1, false, [.d (.sl .int)]), (5, false, [.own 3584]), (6, false, [.d (.int .i64)]), (7, false, [.d (.int .i64)])] 55 0, [(3584, .arr false .int)]⟩, [(.slot 5 0, 3584, .int)], [(.exit 0, ⟨mkSlots [(5, false, [.own 3584])] 55 0, [(3584, .arr false .int)]⟩, [(.slot 5 0, 3584, .int)])]⟩
noncomputable def S_q39_0_w (x : Tys D_q39_0.head.ks) : Option (OutT D_q39_0.outs) := @whileO ((List Int) × (List Int) × Int × Int × (List Int) × Unit) ((List Int) × Unit) S_spec_l02Add_0 x
noncomputable def E_q39 : Env := ⟨layD, [], [(4, mkLM D_q39_0 S_q39_0_w)], []⟩
theorem cons_q39 : ConsOk Tryz.prog E_q39.cons := consOk_nil
theorem S_q39_0_ok (x : Tys D_q39_0.head.ks) : stepL E_q39 D_q39_0 body_q39_0 x = S_spec_l02Add_0 x := by kernel_rfl
theorem loops_q39_0 : loopsIn body_q39_0 = [] := by kernel_rfl
theorem l_q39_0 : LoopOk Tryz.prog (mkLM D_q39_0 S_q39_0_w) body_q39_0 := loop_ok2 mix layD_ok cons_q39 (by kernel_rfl) (loops_mem loops_q39_0 (trivial)) S_q39_0_ok fun _ _ h => h
theorem loops_q39 : loopsIn code_q39 = [body_q39_0] := by kernel_rfl
theorem m_q39 : Meets Tryz.prog 190 c_q39 := meets_of (E := E_q39) (code := code_q39) mix layD_ok cons_q39 Tryz.func190 (by kernel_rfl) sg_q39 (by kernel_rfl) (fun y => y.1) c_q39.out (fun _ => rfl) c_q39.run (fun x => by kernel_rfl) (by kernel_rfl) (loops_mem loops_q39 (⟨⟨_, by kernel_rfl, l_q39_0⟩, trivial⟩))
noncomputable def sg_q40 : Sig := ⟨[(true, [.d (.bool), .d (.sl .int)]), (true, [.d (.bool), .d (.sl .int)])], [], false, [(true, [.d (.bool), .own 0])], [(0, .arr false .int)]⟩
noncomputable def c_q40 : Con := ⟨sg_q40, Bg, fun x => M_spec_l03Add (⟨x.1, x.2.1⟩ : Bg) (⟨x.2.2.1, x.2.2.2.1⟩ : Bg), fun r => (r.neg, r.mag, ())⟩
noncomputable def code_q40 : Code := Tryz.f174.body.getD .skip
noncomputable def E_q40 : Env := ⟨layD, [(190, c_q39), (165, c_q7), (191, c_q14), (192, c_q21)], [], [(2, [(0, []), (1, []), (2, []), (3, []), (4, []), (5, []), (6, [3, 5, 2, 4]), (7, [1, 6, 0, 3, 5, 2, 4]), (8, [7, 0, 1, 2, 3, 4, 5, 6])]), (4, [(0, []), (1, []), (2, []), (3, []), (4, []), (5, []), (6, [3, 5, 2, 4]), (7, [1, 6, 0, 3, 5, 2, 4]), (8, [7, 0, 1, 2, 3, 4, 5, 6])]), (5, [(0, []), (1, []), (2, []), (3, []), (4, []), (5, []), (6, [3, 5, 2, 4]), (7, [1, 6, 0, 3, 5, 2, 4]), (8, [7, 0, 1, 2, 3, 4, 5, 6])])]⟩
theorem cons_q40 : ConsOk Tryz.prog E_q40.cons := consOk_cons m_q39 (callable_of Tryz.func190 (by kernel_rfl)) (consOk_cons m_q7 (callable_of Tryz.func165 (by kernel_rfl)) (consOk_cons m_q14 (callable_of Tryz.func191 (by kernel_rfl)) (consOk_cons m_q21 (callable_of Tryz.func192 (by kernel_rfl)) (consOk_nil))))
theorem loops_q40 : loopsIn code_q40 = [] := by kernel_rfl
theorem m_q40 : Meets Tryz.prog 174 c_q40 := meets_of (E := E_q40) (code := code_q40) mix layD_ok cons_q40 Tryz.func174 (by kernel_rfl) sg_q40 (by kernel_rfl) (fun y => (⟨y.1, y.2.1⟩ : Bg)) c_q40.out (fun _ => rfl) c_q40.run (fun x => by kernel_rfl) (by kernel_rfl) (loops_mem loops_q40 (trivial))
noncomputable def sg_q41 : Sig := ⟨[(true, [.d (.bool), .d (.sl .int), .d (.sl .int)]), (true, [.d (.bool), .d (.sl .int), .d (.sl .int)])], [], false, [(true, [.d (.bool), .own 0, .own 1])], [(0, .arr false .int), (1, .arr false .int)]⟩
noncomputable def c_q41 : Con := ⟨sg_q41, Rt, fun x => M_spec_l04Add (⟨x.1, x.2.1, x.2.2.1⟩ : Rt) (⟨x.2.2.2.1, x.2.2.2.2.1, x.2.2.2.2.2.1⟩ : Rt), fun r => (r.neg, r.mag, r.den, ())⟩
noncomputable def code_q41 : Code := Tryz.f138.body.getD .skip
noncomputable def E_q41 : Env := ⟨layD, [(173, c_q13), (174, c_q40), (153, c_q24), (154, c_q19), (165, c_q7)], [], [(4, [(0, []), (1, []), (2, []), (3, []), (4, []), (5, []), (6, []), (7, []), (8, [5, 7, 4, 6, 3]), (9, [2, 8, 1, 5, 7, 0, 4, 6, 3]), (10, []), (11, [10, 9, 0, 1, 2, 3, 4, 5, 6, 7, 8])]), (5, [(0, []), (1, []), (2, []), (3, []), (4, []), (5, []), (6, []), (7, []), (8, [5, 7, 4, 6, 3]), (9, [2, 8, 1, 5, 7, 0, 4, 6, 3]), (10, []), (11, [10, 9, 0, 1, 2, 3, 4, 5, 6, 7, 8])]), (7, [(0, []), (1, []), (2, []), (3, []), (4, []), (5, []), (6, []), (7, []), (8, [5, 7, 4, 6]), (9, [1, 3, 8, 0, 2, 5, 7, 4, 6]), (10, [9, 0, 1, 2, 3, 4, 5, 6, 7, 8])])]⟩
theorem cons_q41 : ConsOk Tryz.prog E_q41.cons := consOk_cons m_q13 (callable_of Tryz.func173 (by kernel_rfl)) (consOk_cons m_q40 (callable_of Tryz.func174 (by kernel_rfl)) (consOk_cons m_q24 (callable_of Tryz.func153 (by kernel_rfl)) (consOk_cons m_q19 (callable_of Tryz.func154 (by kernel_rfl)) (consOk_cons m_q7 (callable_of Tryz.func165 (by kernel_rfl)) (consOk_nil)))))
theorem loops_q41 : loopsIn code_q41 = [] := by kernel_rfl
theorem m_q41 : Meets Tryz.prog 138 c_q41 := meets_of (E := E_q41) (code := code_q41) mix layD_ok cons_q41 Tryz.func138 (by kernel_rfl) sg_q41 (by kernel_rfl) (fun y => (⟨y.1, y.2.1, y.2.2.1⟩ : Rt)) c_q41.out (fun _ => rfl) c_q41.run (fun x => by kernel_rfl) (by kernel_rfl) (loops_mem loops_q41 (trivial))
noncomputable def sg_q42 : Sig := ⟨[(false, [.d (.sl .rat)]), (false, [.d (.sl .rat)])], [], false, [(true, [.d (.bool), .own 0, .own 1])], [(0, .arr false .int), (1, .arr false .int)]⟩
noncomputable def c_q42 : Con := ⟨sg_q42, Rt, fun x => M_spec_l05Inner x.1 x.2.1, fun r => (r.neg, r.mag, r.den, ())⟩
noncomputable def code_q42 : Code := Tryz.f172.body.getD .skip
noncomputable def body_q42_0 : Code := (loopsIn code_q42).getD 0 .skip
noncomputable def D_q42_0 : LoopD := ⟨⟨mkSlots [(1, false, [.d (.sl .rat)]), (4, false, [.lp 256 0]), (5, false, [.lp 320 0]), (9, false, [.d (.sl .rat)]), (10, false, [.d (.int .i64)]), (11, false, [.d (.int .i64)])] 48 0, [(256, .box [.d (.bool), .d (.sl .int), .d (.sl .int)]), (320, .box [.d (.bool), .own 3136, .own 3200]), (3136, .arr false .int), (3200, .arr false .int)]⟩, [], [(.exit 0, ⟨mkSlots [(4, false, [.lp 256 0]), (5, false, [.lp 320 0])] 48 0, [(256, .box [.d (.bool), .d (.sl .int), .d (.sl .int)]), (320, .box [.d (.bool), .own 3136, .own 3200]), (3136, .arr false .int), (3200, .arr false .int)]⟩, [])]⟩
noncomputable def S_q42_0_w (x : Tys D_q42_0.head.ks) : Option (OutT D_q42_0.outs) := @whileO ((List Rt) × (List Rt) × Int × Int × Bool × (List Int) × (List Int) × Bool × (List Int) × (List Int) × Unit) (Bool × (List Int) × (List Int) × Bool × (List Int) × (List Int) × Unit) S_spec_l05Inner_0 x
noncomputable def E_q42 : Env := ⟨layD, [(96, c_q35), (149, c_q36), (99, c_q37), (98, c_q38), (138, c_q41)], [(3, mkLM D_q42_0 S_q42_0_w)], [(6, [(0, []), (1, []), (2, []), (3, []), (4, []), (5, []), (6, [1, 5, 4, 2, 3]), (7, [0, 6, 1, 5, 4, 2, 3]), (8, [7, 0, 1, 2, 3, 4, 5, 6])])]⟩
theorem cons_q42 : ConsOk Tryz.prog E_q42.cons := consOk_cons m_q35 (callable_of Tryz.func96 (by kernel_rfl)) (consOk_cons m_q36 (callable_of Tryz.func149 (by kernel_rfl)) (consOk_cons m_q37 (callable_of Tryz.func99 (by kernel_rfl)) (consOk_cons m_q38 (callable_of Tryz.func98 (by kernel_rfl)) (consOk_cons m_q41 (callable_of Tryz.func138 (by kernel_rfl)) (consOk_nil)))))
theorem S_q42_0_ok (x : Tys D_q42_0.head.ks) : stepL E_q42 D_q42_0 body_q42_0 x = S_spec_l05Inner_0 x := by kernel_rfl
theorem loops_q42_0 : loopsIn body_q42_0 = [] := by kernel_rfl
theorem l_q42_0 : LoopOk Tryz.prog (mkLM D_q42_0 S_q42_0_w) body_q42_0 := loop_ok2 mix layD_ok cons_q42 (by kernel_rfl) (loops_mem loops_q42_0 (trivial)) S_q42_0_ok fun _ _ h => h
theorem loops_q42 : loopsIn code_q42 = [body_q42_0] := by kernel_rfl
theorem m_q42 : Meets Tryz.prog 172 c_q42 := meets_of (E := E_q42) (code := code_q42) mix layD_ok cons_q42 Tryz.func172 (by kernel_rfl) sg_q42 (by kernel_rfl) (fun y => (⟨y.1, y.2.1, y.2.2.1⟩ : Rt)) c_q42.out (fun _ => rfl) c_q42.run (fun x => by kernel_rfl) (by kernel_rfl) (loops_mem loops_q42 (⟨⟨_, by kernel_rfl, l_q42_0⟩, trivial⟩))
noncomputable def sg_q105 : Sig := ⟨[(true, [.d (.int .i64), .d (.int .i64), .own 191]), (true, [.d (.int .i64), .d (.int .i64), .own 6591])], [(191, .arr false .rat), (6591, .arr false .rat)], false, [(true, [.d (.int .i64), .d (.int .i64), .own 0])], [(0, .arr false .rat), (191, .arr false .rat), (6591, .arr false .rat)]⟩
noncomputable def c_q105 : Con := ⟨sg_q105, Mx × List Rt × List Rt, fun x => M_spec_l06Multiply_mm (⟨x.1, x.2.1, x.2.2.2.2.1⟩ : Mx) (⟨x.2.2.1, x.2.2.2.1, x.2.2.2.2.2.1⟩ : Mx), fun r => (r.1.rows, r.1.cols, r.1.cells, r.2.1, r.2.2, ())⟩
noncomputable def code_q105 : Code := Tryz.f136.body.getD .skip
noncomputable def body_q105_0 : Code := (loopsIn code_q105).getD 0 .skip
noncomputable def body_q105_1 : Code := (loopsIn body_q105_0).getD 0 .skip
noncomputable def D_q105_0 : LoopD := ⟨⟨mkSlots [(2, false, [.lp 128 0]), (3, false, [.lp 192 0]), (4, false, [.lp 256 0]), (5, false, [.lp 320 0]), (6, false, [.lp 384 0]), (7, false, [.d (.int .i64)])] 41 0, [(128, .box [.d (.int .i64), .d (.int .i64), .own 191]), (191, .arr false .rat), (192, .box [.d (.int .i64), .d (.int .i64), .own 6591]), (256, .box [.d (.int .i64), .d (.int .i64), .d (.sl .rat)]), (320, .box [.d (.int .i64), .d (.int .i64), .own 2752]), (384, .box [.d (.int .i64), .d (.int .i64), .own 2688]), (2688, .arr false .rat), (2752, .arr false .rat), (6591, .arr false .rat)]⟩, [(.box 320 2, 2752, .rat)], [(.exit 0, ⟨mkSlots [(4, false, [.lp 256 0]), (5, false, [.lp 320 0])] 41 0, [(191, .arr false .rat), (256, .box [.d (.int .i64), .d (.int .i64), .d (.sl .rat)]), (320, .box [.d (.int .i64), .d (.int .i64), .own 2752]), (2752, .arr false .rat), (6591, .arr false .rat)]⟩, [(.box 320 2, 2752, .rat)])]⟩
noncomputable def D_q105_1 : LoopD := ⟨⟨mkSlots [(2, false, [.lp 128 0]), (3, false, [.lp 192 0]), (4, false, [.lp 256 0]), (5, false, [.lp 320 0]), (6, false, [.lp 384 0]), (7, false, [.d (.int .i64)]), (8, false, [.d (.int .i64)])] 41 0, [(128, .box [.d (.int .i64), .d (.int .i64), .own 191]), (191, .arr false .rat), (192, .box [.d (.int .i64), .d (.int .i64), .own 6591]), (256, .box [.d (.int .i64), .d (.int .i64), .d (.sl .rat)]), (320, .box [.d (.int .i64), .d (.int .i64), .own 2752]), (384, .box [.d (.int .i64), .d (.int .i64), .own 2688]), (2688, .arr false .rat), (2752, .arr false .rat), (6591, .arr false .rat)]⟩, [(.box 320 2, 2752, .rat)], [(.exit 2, ⟨mkSlots [(2, false, [.lp 128 0]), (3, false, [.lp 192 0]), (4, false, [.lp 256 0]), (5, false, [.lp 320 0]), (6, false, [.lp 384 0]), (7, false, [.d (.int .i64)])] 41 0, [(128, .box [.d (.int .i64), .d (.int .i64), .own 191]), (191, .arr false .rat), (192, .box [.d (.int .i64), .d (.int .i64), .own 6591]), (256, .box [.d (.int .i64), .d (.int .i64), .d (.sl .rat)]), (320, .box [.d (.int .i64), .d (.int .i64), .own 2752]), (384, .box [.d (.int .i64), .d (.int .i64), .own 2688]), (2688, .arr false .rat), (2752, .arr false .rat), (6591, .arr false .rat)]⟩, [(.box 320 2, 2752, .rat)])]⟩
noncomputable def S_q105_0_w (x : Tys D_q105_0.head.ks) : Option (OutT D_q105_0.outs) := @whileO (Int × Int × Int × (List Rt) × Int × Int × Int × Int × (List Rt) × Int × Int × Int × Int × (List Rt) × (List Rt) × (List Rt) × Unit) ((List Rt) × Int × Int × (List Rt) × Int × Int × (List Rt) × (List Rt) × Unit) S_spec_l06Multiply_mm_0 x
noncomputable def S_q105_1_w (x : Tys D_q105_1.head.ks) : Option (OutT D_q105_1.outs) := @whileO (Int × Int × Int × Int × (List Rt) × Int × Int × Int × Int × (List Rt) × Int × Int × Int × Int × (List Rt) × (List Rt) × (List Rt) × Unit) (Int × Int × Int × (List Rt) × Int × Int × Int × Int × (List Rt) × Int × Int × Int × Int × (List Rt) × (List Rt) × (List Rt) × Unit) S_spec_l06Multiply_mm_1 x
noncomputable def E_q105 : Env := ⟨lay, [(137, c_q102), (164, c_q103), (172, c_q42)], [(4, mkLM D_q105_0 S_q105_0_w), (7, mkLM D_q105_1 S_q105_1_w)], [(9, [(0, []), (1, []), (2, []), (3, []), (5, []), (6, []), (4, [2, 3]), (7, [5, 6, 4, 2, 3]), (8, [4, 7, 2, 3, 5, 6]), (9, [8, 4, 7, 2, 3, 5, 6]), (10, [1, 9, 8, 0, 4, 7, 2, 3, 5, 6]), (11, []), (12, [11, 10, 0, 1, 2, 3, 4, 5, 6, 7, 8, 9])])]⟩
theorem cons_q105 : ConsOk Tryz.prog E_q105.cons := consOk_cons m_q102 (callable_of Tryz.func137 (by kernel_rfl)) (consOk_cons m_q103 (callable_of Tryz.func164 (by kernel_rfl)) (consOk_cons m_q42 (callable_of Tryz.func172 (by kernel_rfl)) (consOk_nil)))
theorem S_q105_1_ok (x : Tys D_q105_1.head.ks) : stepL E_q105 D_q105_1 body_q105_1 x = S_spec_l06Multiply_mm_1 x := by kernel_rfl
theorem loops_q105_1 : loopsIn body_q105_1 = [] := by kernel_rfl
theorem l_q105_1 : LoopOk Tryz.prog (mkLM D_q105_1 S_q105_1_w) body_q105_1 := loop_ok2 mix lay_ok cons_q105 (by kernel_rfl) (loops_mem loops_q105_1 (trivial)) S_q105_1_ok fun _ _ h => h
theorem S_q105_0_ok (x : Tys D_q105_0.head.ks) : stepL E_q105 D_q105_0 body_q105_0 x = S_spec_l06Multiply_mm_0 x := by kernel_rfl
theorem loops_q105_0 : loopsIn body_q105_0 = [body_q105_1] := by kernel_rfl
theorem l_q105_0 : LoopOk Tryz.prog (mkLM D_q105_0 S_q105_0_w) body_q105_0 := loop_ok2 mix lay_ok cons_q105 (by kernel_rfl) (loops_mem loops_q105_0 (⟨⟨_, by kernel_rfl, l_q105_1⟩, trivial⟩)) S_q105_0_ok fun _ _ h => h
theorem loops_q105 : loopsIn code_q105 = [body_q105_0] := by kernel_rfl
theorem m_q105 : Meets Tryz.prog 136 c_q105 := meets_of (E := E_q105) (code := code_q105) mix lay_ok cons_q105 Tryz.func136 (by kernel_rfl) sg_q105 (by kernel_rfl) (fun y => ((⟨y.1, y.2.1, y.2.2.1⟩ : Mx), y.2.2.2.1, y.2.2.2.2.1)) c_q105.out (fun _ => rfl) c_q105.run (fun x => by kernel_rfl) (by kernel_rfl) (loops_mem loops_q105 (⟨⟨_, by kernel_rfl, l_q105_0⟩, trivial⟩))
noncomputable def sg_q106 : Sig := ⟨[(false, [.lp 63 0])], [(63, .box [.d (.sl .byte), .d (.int .i64), .d (.int .i64)])], false, [(true, [.d (.int .i64), .d (.int .i64), .own 0])], [(0, .arr false .rat), (63, .box [.d (.sl .byte), .d (.int .i64), .d (.int .i64)])]⟩
noncomputable def c_q106 : Con := ⟨sg_q106, Mx × Cur, fun x => M_spec_l08Sure_n (⟨x.1, x.2.1, x.2.2.1⟩ : Cur), fun r => (r.1.rows, r.1.cols, r.1.cells, r.2.b, r.2.i, r.2.h, ())⟩
noncomputable def code_q106 : Code := Tryz.f81.body.getD .skip
noncomputable def body_q106_0 : Code := (loopsIn code_q106).getD 0 .skip
noncomputable def D_q106_0 : LoopD := ⟨⟨mkSlots [(0, false, [.lp 63 0]), (2, false, [.lp 128 0]), (4, false, [.lp 256 0]), (5, false, [.d (.int .i64)])] 37 0, [(63, .box [.d (.sl .byte), .d (.int .i64), .d (.int .i64)]), (128, .box [.d (.int .i64), .d (.int .i64), .d (.sl .rat)]), (256, .box [.d (.int .i64), .d (.int .i64), .own 2432]), (2432, .arr false .rat)]⟩, [], [(.exit 0, ⟨mkSlots [(2, false, [.lp 128 0]), (4, false, [.lp 256 0])] 37 0, [(63, .box [.d (.sl .byte), .d (.int .i64), .d (.int .i64)]), (128, .box [.d (.int .i64), .d (.int .i64), .d (.sl .rat)]), (256, .box [.d (.int .i64), .d (.int .i64), .own 2432]), (2432, .arr false .rat)]⟩, [])]⟩
noncomputable def S_q106_0_w (x : Tys D_q106_0.head.ks) : Option (OutT D_q106_0.outs) := @whileO (Int × (List Int) × Int × Int × Int × Int × (List Rt) × Int × Int × (List Rt) × Unit) ((List Int) × Int × Int × Int × Int × (List Rt) × Int × Int × (List Rt) × Unit) S_spec_l08Sure_n_0 x
noncomputable def E_q106 : Env := ⟨lay, [(61, c_q99), (137, c_q102), (136, c_q105), (140, c_q3), (139, c_q26), (138, c_q41)], [(4, mkLM D_q106_0 S_q106_0_w)], [(2, [(0, []), (2, []), (1, [0]), (3, [1, 2, 0]), (4, []), (5, [4, 3, 0, 1, 2])]), (6, [(0, []), (1, []), (2, []), (3, []), (4, []), (5, []), (6, []), (7, []), (8, []), (9, []), (10, []), (11, []), (12, []), (13, []), (14, []), (15, [14]), (16, []), (17, [16, 15, 14]), (18, [13, 17, 12, 16, 15, 7, 11, 14, 6, 9, 10, 8]), (19, []), (20, [19, 18, 0, 1, 2, 3, 4, 5, 6, 7, 8, 9, 10, 11, 12, 13, 14, 15, 16, 17])])]⟩
theorem cons_q106 : ConsOk Tryz.prog E_q106.cons := consOk_cons m_q99 (callable_of Tryz.func61 (by kernel_rfl)) (consOk_cons m_q102 (callable_of Tryz.func137 (by kernel_rfl)) (consOk_cons m_q105 (callable_of Tryz.func136 (by kernel_rfl)) (consOk_cons m_q3 (callable_of Tryz.func140 (by kernel_rfl)) (consOk_cons m_q26 (callable_of Tryz.func139 (by kernel_rfl)) (consOk_cons m_q41 (callable_of Tryz.func138 (by kernel_rfl)) (consOk_nil))))))
theorem S_q106_0_ok (x : Tys D_q106_0.head.ks) : stepL E_q106 D_q106_0 body_q106_0 x = S_spec_l08Sure_n_0 x := by kernel_rfl
theorem loops_q106_0 : loopsIn body_q106_0 = [] := by kernel_rfl
theorem l_q106_0 : LoopOk Tryz.prog (mkLM D_q106_0 S_q106_0_w) body_q106_0 := loop_ok2 mix lay_ok cons_q106 (by kernel_rfl) (loops_mem loops_q106_0 (trivial)) S_q106_0_ok fun _ _ h => h
theorem loops_q106 : loopsIn code_q106 = [body_q106_0] := by kernel_rfl
theorem m_q106 : Meets Tryz.prog 81 c_q106 := meets_of (E := E_q106) (code := code_q106) mix lay_ok cons_q106 Tryz.func81 (by kernel_rfl) sg_q106 (by kernel_rfl) (fun y => ((⟨y.1, y.2.1, y.2.2.1⟩ : Mx), (⟨y.2.2.2.1, y.2.2.2.2.1, y.2.2.2.2.2.1⟩ : Cur))) c_q106.out (fun _ => rfl) c_q106.run (fun x => by kernel_rfl) (by kernel_rfl) (loops_mem loops_q106 (⟨⟨_, by kernel_rfl, l_q106_0⟩, trivial⟩))
noncomputable def sg_q107 : Sig := ⟨[(false, [.d (.sl .byte)])], [], false, [(true, [.d (.int .i64), .d (.int .i64), .own 0])], [(0, .arr false .rat)]⟩
noncomputable def c_q107 : Con := ⟨sg_q107, Mx, fun x => M_spec_MakeSymmetric_n x.1, fun r => (r.rows, r.cols, r.cells, ())⟩
noncomputable def code_q107 : Code := Tryz.f25.body.getD .skip
noncomputable def E_q107 : Env := ⟨lay, [(82, c_q1), (81, c_q106)], [], []⟩
theorem cons_q107 : ConsOk Tryz.prog E_q107.cons := consOk_cons m_q1 (callable_of Tryz.func82 (by kernel_rfl)) (consOk_cons m_q106 (callable_of Tryz.func81 (by kernel_rfl)) (consOk_nil))
theorem loops_q107 : loopsIn code_q107 = [] := by kernel_rfl
theorem m_q107 : Meets Tryz.prog 25 c_q107 := meets_of (E := E_q107) (code := code_q107) mix lay_ok cons_q107 Tryz.func25 (by kernel_rfl) sg_q107 (by kernel_rfl) (fun y => (⟨y.1, y.2.1, y.2.2.1⟩ : Mx)) c_q107.out (fun _ => rfl) c_q107.run (fun x => by kernel_rfl) (by kernel_rfl) (loops_mem loops_q107 (trivial))
noncomputable def sg_q46 : Sig := ⟨[(false, [.d (.int .i64)])], [], false, [(false, [.d (.bool)])], []⟩
noncomputable def c_q46 : Con := ⟨sg_q46, Bool, fun x => M_impl_isLength x.1, fun r => (r, ())⟩
noncomputable def code_q46 : Code := Tryz.f75.body.getD .skip
noncomputable def E_q46 : Env := ⟨layD, [], [], []⟩
theorem cons_q46 : ConsOk Tryz.prog E_q46.cons := consOk_nil
theorem loops_q46 : loopsIn code_q46 = [] := by kernel_rfl
theorem m_q46 : Meets Tryz.prog 75 c_q46 := meets_of (E := E_q46) (code := code_q46) mix layD_ok cons_q46 Tryz.func75 (by kernel_rfl) sg_q46 (by kernel_rfl) (fun y => y.1) c_q46.out (fun _ => rfl) c_q46.run (fun x => by kernel_rfl) (by kernel_rfl) (loops_mem loops_q46 (trivial))
noncomputable def sg_q47 : Sig := ⟨[(false, [.d (.sl .int)])], [], false, [(false, [.d (.bool)])], []⟩
noncomputable def c_q47 : Con := ⟨sg_q47, Bool, fun x => M_impl_NatOk x.1, fun r => (r, ())⟩
noncomputable def code_q47 : Code := Tryz.f130.body.getD .skip
noncomputable def body_q47_0 : Code := (loopsIn code_q47).getD 0 .skip
noncomputable def D_q47_0 : LoopD := ⟨⟨mkSlots [(22, false, [.d (.sl .int)]), (23, false, [.d (.int .i64)]), (24, false, [.d (.int .i64)])] 35 0, []⟩, [], [(.ret, ⟨mkSlots [(2, false, [.d (.bool)])] 35 0, []⟩, []), (.exit 0, ⟨mkSlots [] 35 0, []⟩, [])]⟩
noncomputable def S_q47_0_w (x : Tys D_q47_0.head.ks) : Option (OutT D_q47_0.outs) := @whileO ((List Int) × Int × Int × Unit) ((Bool × Unit) ⊕ (Unit)) S_impl_NatOk_0 x
noncomputable def E_q47 : Env := ⟨layD, [], [(4, mkLM D_q47_0 S_q47_0_w)], []⟩
theorem cons_q47 : ConsOk Tryz.prog E_q47.cons := consOk_nil
theorem S_q47_0_ok (x : Tys D_q47_0.head.ks) : stepL E_q47 D_q47_0 body_q47_0 x = S_impl_NatOk_0 x := by kernel_rfl
theorem loops_q47_0 : loopsIn body_q47_0 = [] := by kernel_rfl
theorem l_q47_0 : LoopOk Tryz.prog (mkLM D_q47_0 S_q47_0_w) body_q47_0 := loop_ok2 mix layD_ok cons_q47 (by kernel_rfl) (loops_mem loops_q47_0 (trivial)) S_q47_0_ok fun _ _ h => h
theorem loops_q47 : loopsIn code_q47 = [body_q47_0] := by kernel_rfl
theorem m_q47 : Meets Tryz.prog 130 c_q47 := meets_of (E := E_q47) (code := code_q47) mix layD_ok cons_q47 Tryz.func130 (by kernel_rfl) sg_q47 (by kernel_rfl) (fun y => y.1) c_q47.out (fun _ => rfl) c_q47.run (fun x => by kernel_rfl) (by kernel_rfl) (loops_mem loops_q47 (⟨⟨_, by kernel_rfl, l_q47_0⟩, trivial⟩))
noncomputable def sg_q48 : Sig := ⟨[(true, [.d (.bool), .d (.sl .int)])], [], false, [(false, [.d (.bool)])], []⟩
noncomputable def c_q48 : Con := ⟨sg_q48, Bool, fun x => M_impl_BigIntOk (⟨x.1, x.2.1⟩ : Bg), fun r => (r, ())⟩
noncomputable def code_q48 : Code := Tryz.f129.body.getD .skip
noncomputable def E_q48 : Env := ⟨layD, [(130, c_q47)], [], []⟩
theorem cons_q48 : ConsOk Tryz.prog E_q48.cons := consOk_cons m_q47 (callable_of Tryz.func130 (by kernel_rfl)) (consOk_nil)
theorem loops_q48 : loopsIn code_q48 = [] := by kernel_rfl
theorem m_q48 : Meets Tryz.prog 129 c_q48 := meets_of (E := E_q48) (code := code_q48) mix layD_ok cons_q48 Tryz.func129 (by kernel_rfl) sg_q48 (by kernel_rfl) (fun y => y.1) c_q48.out (fun _ => rfl) c_q48.run (fun x => by kernel_rfl) (by kernel_rfl) (loops_mem loops_q48 (trivial))
noncomputable def sg_q49 : Sig := ⟨[(false, [.d (.sl .int)]), (false, [.d (.sl .int)])], [], false, [(false, [.d (.int .i64)])], []⟩
noncomputable def c_q49 : Con := ⟨sg_q49, Int, fun x => M_impl_natCmp x.1 x.2.1, fun r => (r, ())⟩
noncomputable def code_q49 : Code := Tryz.f188.body.getD .skip
noncomputable def body_q49_0 : Code := (loopsIn code_q49).getD 0 .skip
noncomputable def D_q49_0 : LoopD := ⟨⟨mkSlots [(0, false, [.d (.sl .int)]), (1, false, [.d (.sl .int)]), (5, false, [.d (.int .i64)])] 43 0, []⟩, [], [(.ret, ⟨mkSlots [(4, false, [.d (.int .i64)])] 43 0, []⟩, []), (.exit 0, ⟨mkSlots [] 43 0, []⟩, [])]⟩
noncomputable def S_q49_0_w (x : Tys D_q49_0.head.ks) : Option (OutT D_q49_0.outs) := @whileO ((List Int) × (List Int) × Int × Unit) ((Int × Unit) ⊕ (Unit)) S_impl_natCmp_0 x
noncomputable def E_q49 : Env := ⟨layD, [], [(6, mkLM D_q49_0 S_q49_0_w)], [(8, [(0, []), (1, []), (2, []), (3, []), (4, []), (5, []), (6, []), (7, []), (8, []), (9, [8, 3, 7, 2, 6, 0, 1, 4, 5])]), (10, [(0, []), (1, []), (2, []), (3, []), (4, []), (5, []), (6, []), (7, []), (8, []), (9, [8, 3, 7, 2, 6, 0, 1, 4, 5])])]⟩
theorem cons_q49 : ConsOk Tryz.prog E_q49.cons := consOk_nil
theorem S_q49_0_ok (x : Tys D_q49_0.head.ks) : stepL E_q49 D_q49_0 body_q49_0 x = S_impl_natCmp_0 x := by kernel_rfl
theorem loops_q49_0 : loopsIn body_q49_0 = [] := by kernel_rfl
theorem l_q49_0 : LoopOk Tryz.prog (mkLM D_q49_0 S_q49_0_w) body_q49_0 := loop_ok2 mix layD_ok cons_q49 (by kernel_rfl) (loops_mem loops_q49_0 (trivial)) S_q49_0_ok fun _ _ h => h
theorem loops_q49 : loopsIn code_q49 = [body_q49_0] := by kernel_rfl
theorem m_q49 : Meets Tryz.prog 188 c_q49 := meets_of (E := E_q49) (code := code_q49) mix layD_ok cons_q49 Tryz.func188 (by kernel_rfl) sg_q49 (by kernel_rfl) (fun y => y.1) c_q49.out (fun _ => rfl) c_q49.run (fun x => by kernel_rfl) (by kernel_rfl) (loops_mem loops_q49 (⟨⟨_, by kernel_rfl, l_q49_0⟩, trivial⟩))
noncomputable def sg_q50 : Sig := ⟨[(false, [.d (.sl .int)])], [], false, [(false, [.own 0])], [(0, .arr false .int)]⟩
noncomputable def c_q50 : Con := ⟨sg_q50, List Int, fun x => M_impl_copyInts x.1, fun r => (r, ())⟩
noncomputable def code_q50 : Code := Tryz.f142.body.getD .skip
noncomputable def E_q50 : Env := ⟨layD, [], [], []⟩
theorem cons_q50 : ConsOk Tryz.prog E_q50.cons := consOk_nil
theorem loops_q50 : loopsIn code_q50 = [] := by kernel_rfl
theorem m_q50 : Meets Tryz.prog 142 c_q50 := meets_of (E := E_q50) (code := code_q50) mix layD_ok cons_q50 Tryz.func142 (by kernel_rfl) sg_q50 (by kernel_rfl) (fun y => y.1) c_q50.out (fun _ => rfl) c_q50.run (fun x => by kernel_rfl) (by kernel_rfl) (loops_mem loops_q50 (trivial))
noncomputable def sg_q51 : Sig := ⟨[(false, [.own 0])], [(0, .arr false .int)], false, [(false, [.own 0])], [(0, .arr false .int)]⟩
noncomputable def c_q51 : Con := ⟨sg_q51, List Int, fun x => M_impl_trim_c x.1, fun r => (r, ())⟩
noncomputable def code_q51 : Code := Tryz.f171.body.getD .skip
noncomputable def body_q51_0 : Code := (loopsIn code_q51).getD 0 .skip
noncomputable def D_q51_0 : LoopD := ⟨⟨mkSlots [(0, false, [.own 1408]), (3, false, [.d (.int .i64)])] 21 0, [(1408, .arr false .int)]⟩, [], [(.exit 0, ⟨mkSlots [(0, false, [.own 1408]), (3, false, [.d (.int .i64)])] 21 0, [(1408, .arr false .int)]⟩, [])]⟩
noncomputable def S_q51_0_w (x : Tys D_q51_0.head.ks) : Option (OutT D_q51_0.outs) := @whileO (Int × (List Int) × Unit) (Int × (List Int) × Unit) S_impl_trim_c_0 x
noncomputable def E_q51 : Env := ⟨layD, [], [(2, mkLM D_q51_0 S_q51_0_w)], []⟩
theorem cons_q51 : ConsOk Tryz.prog E_q51.cons := consOk_nil
theorem S_q51_0_ok (x : Tys D_q51_0.head.ks) : stepL E_q51 D_q51_0 body_q51_0 x = S_impl_trim_c_0 x := by kernel_rfl
theorem loops_q51_0 : loopsIn body_q51_0 = [] := by kernel_rfl
theorem l_q51_0 : LoopOk Tryz.prog (mkLM D_q51_0 S_q51_0_w) body_q51_0 := loop_ok2 mix layD_ok cons_q51 (by kernel_rfl) (loops_mem loops_q51_0 (trivial)) S_q51_0_ok fun _ _ h => h
theorem loops_q51 : loopsIn code_q51 = [body_q51_0] := by kernel_rfl
theorem m_q51 : Meets Tryz.prog 171 c_q51 := meets_of (E := E_q51) (code := code_q51) mix layD_ok cons_q51 Tryz.func171 (by kernel_rfl) sg_q51 (by kernel_rfl) (fun y => y.1) c_q51.out (fun _ => rfl) c_q51.run (fun x => by kernel_rfl) (by kernel_rfl) (loops_mem loops_q51 (⟨⟨_, by kernel_rfl, l_q51_0⟩, trivial⟩))
noncomputable def sg_q52 : Sig := ⟨[(false, [.d (.int .i64)])], [], false, [(false, [.own 0])], [(0, .arr false .int)]⟩
noncomputable def c_q52 : Con := ⟨sg_q52, List Int, fun x => M_impl_NatOf x.1, fun r => (r, ())⟩
noncomputable def code_q52 : Code := Tryz.f200.body.getD .skip
noncomputable def body_q52_0 : Code := (loopsIn code_q52).getD 0 .skip
noncomputable def D_q52_0 : LoopD := ⟨⟨mkSlots [(0, false, [.d (.int .i64)]), (3, false, [.own 960])] 14 0, [(960, .arr false .int)]⟩, [(.slot 3 0, 960, .int)], [(.exit 0, ⟨mkSlots [(3, false, [.own 960])] 14 0, [(960, .arr false .int)]⟩, [(.slot 3 0, 960, .int)])]⟩
noncomputable def S_q52_0_w (x : Tys D_q52_0.head.ks) : Option (OutT D_q52_0.outs) := @whileO (Int × (List Int) × Unit) ((List Int) × Unit) S_impl_NatOf_0 x
noncomputable def E_q52 : Env := ⟨layD, [], [(2, mkLM D_q52_0 S_q52_0_w)], []⟩
theorem cons_q52 : ConsOk Tryz.prog E_q52.cons := consOk_nil
theorem S_q52_0_ok (x : Tys D_q52_0.head.ks) : stepL E_q52 D_q52_0 body_q52_0 x = S_impl_NatOf_0 x := by kernel_rfl
theorem loops_q52_0 : loopsIn body_q52_0 = [] := by kernel_rfl
theorem l_q52_0 : LoopOk Tryz.prog (mkLM D_q52_0 S_q52_0_w) body_q52_0 := loop_ok2 mix layD_ok cons_q52 (by kernel_rfl) (loops_mem loops_q52_0 (trivial)) S_q52_0_ok fun _ _ h => h
theorem loops_q52 : loopsIn code_q52 = [body_q52_0] := by kernel_rfl
theorem m_q52 : Meets Tryz.prog 200 c_q52 := meets_of (E := E_q52) (code := code_q52) mix layD_ok cons_q52 Tryz.func200 (by kernel_rfl) sg_q52 (by kernel_rfl) (fun y => y.1) c_q52.out (fun _ => rfl) c_q52.run (fun x => by kernel_rfl) (by kernel_rfl) (loops_mem loops_q52 (⟨⟨_, by kernel_rfl, l_q52_0⟩, trivial⟩))
noncomputable def sg_q53 : Sig := ⟨[(false, [.d (.sl .int)]), (false, [.d (.int .i64)])], [], true, [(false, [.own 0]), (false, [.own 1])], [(0, .arr false .int), (1, .arr false .int)]⟩
noncomputable def c_q53 : Con := ⟨sg_q53, List Int × List Int, fun x => M_impl_divSmall x.1 x.2.1, fun r => (r.1, r.2, ())⟩
noncomputable def code_q53 : Code := Tryz.f189.body.getD .skip
noncomputable def body_q53_0 : Code := (loopsIn code_q53).getD 0 .skip
noncomputable def D_q53_0 : LoopD := ⟨⟨mkSlots [(0, false, [.d (.sl .int)]), (1, false, [.d (.int .i64)]), (6, false, [.own 2624]), (7, false, [.d (.int .i64)]), (8, false, [.d (.int .i64)])] 40 0, [(2624, .arr false .int)]⟩, [], [(.exit 0, ⟨mkSlots [(6, false, [.own 2624]), (7, false, [.d (.int .i64)])] 40 0, [(2624, .arr false .int)]⟩, [])]⟩
noncomputable def S_q53_0_w (x : Tys D_q53_0.head.ks) : Option (OutT D_q53_0.outs) := @whileO ((List Int) × Int × Int × Int × (List Int) × Unit) (Int × (List Int) × Unit) S_impl_divSmall_0 x
noncomputable def E_q53 : Env := ⟨layD, [(171, c_q51), (200, c_q52)], [(4, mkLM D_q53_0 S_q53_0_w)], []⟩
theorem cons_q53 : ConsOk Tryz.prog E_q53.cons := consOk_cons m_q51 (callable_of Tryz.func171 (by kernel_rfl)) (consOk_cons m_q52 (callable_of Tryz.func200 (by kernel_rfl)) (consOk_nil))
theorem S_q53_0_ok (x : Tys D_q53_0.head.ks) : stepL E_q53 D_q53_0 body_q53_0 x = S_impl_divSmall_0 x := by kernel_rfl
theorem loops_q53_0 : loopsIn body_q53_0 = [] := by kernel_rfl
theorem l_q53_0 : LoopOk Tryz.prog (mkLM D_q53_0 S_q53_0_w) body_q53_0 := loop_ok2 mix layD_ok cons_q53 (by kernel_rfl) (loops_mem loops_q53_0 (trivial)) S_q53_0_ok fun _ _ h => h
theorem loops_q53 : loopsIn code_q53 = [body_q53_0] := by kernel_rfl
theorem m_q53 : Meets Tryz.prog 189 c_q53 := meets_of (E := E_q53) (code := code_q53) mix layD_ok cons_q53 Tryz.func189 (by kernel_rfl) sg_q53 (by kernel_rfl) (fun y => (y.1, y.2.1)) c_q53.out (fun _ => rfl) c_q53.run (fun x => by kernel_rfl) (by kernel_rfl) (loops_mem loops_q53 (⟨⟨_, by kernel_rfl, l_q53_0⟩, trivial⟩))
noncomputable def sg_q54 : Sig := ⟨[(false, [.d (.sl .int)]), (false, [.d (.sl .int)])], [], false, [(false, [.own 0])], [(0, .arr false .int)]⟩
noncomputable def c_q54 : Con := ⟨sg_q54, List Int, fun x => M_impl_natMul x.1 x.2.1, fun r => (r, ())⟩
noncomputable def code_q54 : Code := Tryz.f127.body.getD .skip
noncomputable def body_q54_0 : Code := (loopsIn code_q54).getD 0 .skip
noncomputable def body_q54_1 : Code := (loopsIn body_q54_0).getD 0 .skip
noncomputable def D_q54_0 : LoopD := ⟨⟨mkSlots [(1, false, [.d (.sl .int)]), (5, false, [.own 4352]), (18, false, [.d (.sl .int)]), (19, false, [.d (.int .i64)]), (20, false, [.d (.int .i64)])] 67 0, [(4352, .arr false .int)]⟩, [], [(.exit 0, ⟨mkSlots [(5, false, [.own 4352])] 67 0, [(4352, .arr false .int)]⟩, [])]⟩
noncomputable def D_q54_1 : LoopD := ⟨⟨mkSlots [(1, false, [.d (.sl .int)]), (5, false, [.own 4352]), (6, false, [.d (.int .i64)]), (7, false, [.d (.int .i64)]), (8, false, [.d (.int .i64)]), (18, false, [.d (.sl .int)]), (19, false, [.d (.int .i64)]), (20, false, [.d (.int .i64)]), (25, false, [.d (.sl .int)]), (26, false, [.d (.int .i64)]), (27, false, [.d (.int .i64)])] 67 0, [(4352, .arr false .int)]⟩, [], [(.exit 2, ⟨mkSlots [(1, false, [.d (.sl .int)]), (5, false, [.own 4352]), (6, false, [.d (.int .i64)]), (8, false, [.d (.int .i64)]), (18, false, [.d (.sl .int)]), (19, false, [.d (.int .i64)]), (20, false, [.d (.int .i64)])] 67 0, [(4352, .arr false .int)]⟩, [])]⟩
noncomputable def S_q54_0_w (x : Tys D_q54_0.head.ks) : Option (OutT D_q54_0.outs) := @whileO ((List Int) × (List Int) × Int × Int × (List Int) × Unit) ((List Int) × Unit) S_impl_natMul_0 x
noncomputable def S_q54_1_w (x : Tys D_q54_1.head.ks) : Option (OutT D_q54_1.outs) := @whileO ((List Int) × Int × Int × Int × (List Int) × Int × Int × (List Int) × Int × Int × (List Int) × Unit) ((List Int) × Int × Int × (List Int) × Int × Int × (List Int) × Unit) S_impl_natMul_1 x
noncomputable def E_q54 : Env := ⟨layD, [(171, c_q51)], [(3, mkLM D_q54_0 S_q54_0_w), (7, mkLM D_q54_1 S_q54_1_w)], []⟩
theorem cons_q54 : ConsOk Tryz.prog E_q54.cons := consOk_cons m_q51 (callable_of Tryz.func171 (by kernel_rfl)) (consOk_nil)
theorem S_q54_1_ok (x : Tys D_q54_1.head.ks) : stepL E_q54 D_q54_1 body_q54_1 x = S_impl_natMul_1 x := by kernel_rfl
theorem loops_q54_1 : loopsIn body_q54_1 = [] := by kernel_rfl
theorem l_q54_1 : LoopOk Tryz.prog (mkLM D_q54_1 S_q54_1_w) body_q54_1 := loop_ok2 mix layD_ok cons_q54 (by kernel_rfl) (loops_mem loops_q54_1 (trivial)) S_q54_1_ok fun _ _ h => h
theorem S_q54_0_ok (x : Tys D_q54_0.head.ks) : stepL E_q54 D_q54_0 body_q54_0 x = S_impl_natMul_0 x := by kernel_rfl
theorem loops_q54_0 : loopsIn body_q54_0 = [body_q54_1] := by kernel_rfl
theorem l_q54_0 : LoopOk Tryz.prog (mkLM D_q54_0 S_q54_0_w) body_q54_0 := loop_ok2 mix layD_ok cons_q54 (by kernel_rfl) (loops_mem loops_q54_0 (⟨⟨_, by kernel_rfl, l_q54_1⟩, trivial⟩)) S_q54_0_ok fun _ _ h => h
theorem loops_q54 : loopsIn code_q54 = [body_q54_0] := by kernel_rfl
theorem m_q54 : Meets Tryz.prog 127 c_q54 := meets_of (E := E_q54) (code := code_q54) mix layD_ok cons_q54 Tryz.func127 (by kernel_rfl) sg_q54 (by kernel_rfl) (fun y => y.1) c_q54.out (fun _ => rfl) c_q54.run (fun x => by kernel_rfl) (by kernel_rfl) (loops_mem loops_q54 (⟨⟨_, by kernel_rfl, l_q54_0⟩, trivial⟩))
noncomputable def sg_q55 : Sig := ⟨[(false, [.d (.sl .int)]), (false, [.d (.sl .int)])], [], true, [(false, [.own 0]), (false, [.own 1])], [(0, .arr false .int), (1, .arr false .int)]⟩
noncomputable def c_q55 : Con := ⟨sg_q55, List Int × List Int, fun x => M_impl_natDiv x.1 x.2.1, fun r => (r.1, r.2, ())⟩
noncomputable def code_q55 : Code := Tryz.f169.body.getD .skip
noncomputable def body_q55_0 : Code := (loopsIn code_q55).getD 0 .skip
noncomputable def body_q55_1 : Code := (loopsIn code_q55).getD 1 .skip
noncomputable def body_q55_2 : Code := (loopsIn body_q55_1).getD 0 .skip
noncomputable def body_q55_3 : Code := (loopsIn body_q55_1).getD 1 .skip
noncomputable def body_q55_4 : Code := (loopsIn body_q55_1).getD 2 .skip
noncomputable def D_q55_0 : LoopD := ⟨⟨mkSlots [(0, false, [.d (.sl .int)]), (6, false, [.d (.int .i64)]), (7, false, [.own 15360]), (8, false, [.own 15424]), (9, false, [.d (.int .i64)])] 239 0, [(15360, .arr false .int), (15424, .arr false .int)]⟩, [], [(.exit 0, ⟨mkSlots [(6, false, [.d (.int .i64)]), (7, false, [.own 15360]), (8, false, [.own 15424]), (9, false, [.d (.int .i64)])] 239 0, [(15360, .arr false .int), (15424, .arr false .int)]⟩, [])]⟩
noncomputable def D_q55_1 : LoopD := ⟨⟨mkSlots [(6, false, [.d (.int .i64)]), (7, false, [.own 15360]), (8, false, [.own 15424]), (9, false, [.d (.int .i64)]), (10, false, [.own 15488]), (11, false, [.d (.int .i64)]), (12, false, [.d (.int .i64)])] 239 0, [(15360, .arr false .int), (15424, .arr false .int), (15488, .arr false .int)]⟩, [], [(.exit 2, ⟨mkSlots [(6, false, [.d (.int .i64)]), (7, false, [.own 15360]), (10, false, [.own 15488])] 239 0, [(15360, .arr false .int), (15488, .arr false .int)]⟩, [])]⟩
noncomputable def D_q55_2 : LoopD := ⟨⟨mkSlots [(6, false, [.d (.int .i64)]), (7, false, [.own 15360]), (8, false, [.own 15424]), (9, false, [.d (.int .i64)]), (10, false, [.own 15488]), (11, false, [.d (.int .i64)]), (12, false, [.d (.int .i64)]), (14, false, [.d (.int .i64)]), (15, false, [.d (.int .i64)])] 239 0, [(15360, .arr false .int), (15424, .arr false .int), (15488, .arr false .int)]⟩, [], [(.exit 4, ⟨mkSlots [(6, false, [.d (.int .i64)]), (7, false, [.own 15360]), (8, false, [.own 15424]), (9, false, [.d (.int .i64)]), (10, false, [.own 15488]), (11, false, [.d (.int .i64)]), (12, false, [.d (.int .i64)]), (14, false, [.d (.int .i64)])] 239 0, [(15360, .arr false .int), (15424, .arr false .int), (15488, .arr false .int)]⟩, [])]⟩
noncomputable def D_q55_3 : LoopD := ⟨⟨mkSlots [(6, false, [.d (.int .i64)]), (7, false, [.own 15360]), (8, false, [.own 15424]), (9, false, [.d (.int .i64)]), (10, false, [.own 15488]), (11, false, [.d (.int .i64)]), (12, false, [.d (.int .i64)]), (14, false, [.d (.int .i64)]), (16, false, [.d (.int .i64)]), (135, false, [.d (.int .i64)]), (136, false, [.d (.int .i64)])] 239 0, [(15360, .arr false .int), (15424, .arr false .int), (15488, .arr false .int)]⟩, [], [(.exit 6, ⟨mkSlots [(6, false, [.d (.int .i64)]), (7, false, [.own 15360]), (8, false, [.own 15424]), (9, false, [.d (.int .i64)]), (10, false, [.own 15488]), (11, false, [.d (.int .i64)]), (12, false, [.d (.int .i64)]), (14, false, [.d (.int .i64)]), (16, false, [.d (.int .i64)])] 239 0, [(15360, .arr false .int), (15424, .arr false .int), (15488, .arr false .int)]⟩, [])]⟩
noncomputable def D_q55_4 : LoopD := ⟨⟨mkSlots [(6, false, [.d (.int .i64)]), (7, false, [.own 15360]), (8, false, [.own 15424]), (9, false, [.d (.int .i64)]), (10, false, [.own 15488]), (11, false, [.d (.int .i64)]), (12, false, [.d (.int .i64)]), (14, false, [.d (.int .i64)]), (19, false, [.d (.int .i64)]), (188, false, [.d (.int .i64)]), (189, false, [.d (.int .i64)])] 239 0, [(15360, .arr false .int), (15424, .arr false .int), (15488, .arr false .int)]⟩, [], [(.exit 8, ⟨mkSlots [(6, false, [.d (.int .i64)]), (7, false, [.own 15360]), (8, false, [.own 15424]), (9, false, [.d (.int .i64)]), (10, false, [.own 15488]), (11, false, [.d (.int .i64)]), (12, false, [.d (.int .i64)]), (14, false, [.d (.int .i64)]), (19, false, [.d (.int .i64)])] 239 0, [(15360, .arr false .int), (15424, .arr false .int), (15488, .arr false .int)]⟩, [])]⟩
noncomputable def S_q55_0_w (x : Tys D_q55_0.head.ks) : Option (OutT D_q55_0.outs) := @whileO ((List Int) × Int × Int × (List Int) × (List Int) × Unit) (Int × Int × (List Int) × (List Int) × Unit) S_impl_natDiv_0 x
noncomputable def S_q55_1_w (x : Tys D_q55_1.head.ks) : Option (OutT D_q55_1.outs) := @whileO (Int × Int × Int × Int × (List Int) × (List Int) × (List Int) × Unit) (Int × (List Int) × (List Int) × Unit) S_impl_natDiv_1 x
noncomputable def S_q55_2_w (x : Tys D_q55_2.head.ks) : Option (OutT D_q55_2.outs) := @whileO (Int × Int × Int × Int × Int × Int × (List Int) × (List Int) × (List Int) × Unit) (Int × Int × Int × Int × Int × (List Int) × (List Int) × (List Int) × Unit) S_impl_natDiv_2 x
noncomputable def S_q55_3_w (x : Tys D_q55_3.head.ks) : Option (OutT D_q55_3.outs) := @whileO (Int × Int × Int × Int × Int × Int × Int × Int × (List Int) × (List Int) × (List Int) × Unit) (Int × Int × Int × Int × Int × Int × (List Int) × (List Int) × (List Int) × Unit) S_impl_natDiv_3 x
noncomputable def S_q55_4_w (x : Tys D_q55_4.head.ks) : Option (OutT D_q55_4.outs) := @whileO (Int × Int × Int × Int × Int × Int × Int × Int × (List Int) × (List Int) × (List Int) × Unit) (Int × Int × Int × Int × Int × Int × (List Int) × (List Int) × (List Int) × Unit) S_impl_natDiv_4 x
noncomputable def E_q55 : Env := ⟨layD, [(188, c_q49), (142, c_q50), (189, c_q53), (127, c_q54), (171, c_q51)], [(9, mkLM D_q55_0 S_q55_0_w), (14, mkLM D_q55_1 S_q55_1_w), (18, mkLM D_q55_2 S_q55_2_w), (24, mkLM D_q55_3 S_q55_3_w), (38, mkLM D_q55_4 S_q55_4_w)], [(16, [(0, []), (1, []), (2, []), (3, []), (4, []), (5, []), (6, []), (7, []), (8, []), (9, []), (10, []), (11, []), (12, []), (13, []), (14, []), (15, [14, 0, 1, 2, 3, 4, 5, 6, 7, 8, 9, 10, 11, 12, 13])]), (17, [(0, []), (1, []), (2, []), (3, []), (4, []), (5, []), (6, [2, 0, 1]), (7, [5, 6, 0, 1, 2, 3, 4])]), (18, [(0, []), (1, []), (2, []), (3, []), (4, []), (5, []), (6, []), (7, []), (8, []), (9, []), (10, []), (11, []), (12, []), (13, []), (14, []), (15, []), (16, []), (17, []), (18, []), (19, []), (20, []), (21, [])]), (26, [(0, []), (1, []), (2, []), (3, []), (4, []), (5, []), (6, []), (7, []), (8, []), (9, []), (10, []), (11, []), (12, []), (13, []), (14, []), (15, [14, 0, 1, 2, 3, 4, 5, 6, 7, 8, 9, 10, 11, 12, 13])]), (40, [(0, []), (1, []), (2, []), (3, []), (4, []), (5, []), (6, []), (7, []), (8, []), (9, []), (10, []), (11, []), (12, []), (13, [12, 0, 1, 2, 3, 4, 5, 6, 7, 8, 9, 10, 11])])]⟩
theorem cons_q55 : ConsOk Tryz.prog E_q55.cons := consOk_cons m_q49 (callable_of Tryz.func188 (by kernel_rfl)) (consOk_cons m_q50 (callable_of Tryz.func142 (by kernel_rfl)) (consOk_cons m_q53 (callable_of Tryz.func189 (by kernel_rfl)) (consOk_cons m_q54 (callable_of Tryz.func127 (by kernel_rfl)) (consOk_cons m_q51 (callable_of Tryz.func171 (by kernel_rfl)) (consOk_nil)))))
theorem S_q55_4_ok (x : Tys D_q55_4.head.ks) : stepL E_q55 D_q55_4 body_q55_4 x = S_impl_natDiv_4 x := by kernel_rfl
theorem loops_q55_4 : loopsIn body_q55_4 = [] := by kernel_rfl
theorem l_q55_4 : LoopOk Tryz.prog (mkLM D_q55_4 S_q55_4_w) body_q55_4 := loop_ok2 mix layD_ok cons_q55 (by kernel_rfl) (loops_mem loops_q55_4 (trivial)) S_q55_4_ok fun _ _ h => h
theorem S_q55_3_ok (x : Tys D_q55_3.head.ks) : stepL E_q55 D_q55_3 body_q55_3 x = S_impl_natDiv_3 x := by kernel_rfl
theorem loops_q55_3 : loopsIn body_q55_3 = [] := by kernel_rfl
theorem l_q55_3 : LoopOk Tryz.prog (mkLM D_q55_3 S_q55_3_w) body_q55_3 := loop_ok2 mix layD_ok cons_q55 (by kernel_rfl) (loops_mem loops_q55_3 (trivial)) S_q55_3_ok fun _ _ h => h
theorem S_q55_2_ok (x : Tys D_q55_2.head.ks) : stepL E_q55 D_q55_2 body_q55_2 x = S_impl_natDiv_2 x := by kernel_rfl
theorem loops_q55_2 : loopsIn body_q55_2 = [] := by kernel_rfl
theorem l_q55_2 : LoopOk Tryz.prog (mkLM D_q55_2 S_q55_2_w) body_q55_2 := loop_ok2 mix layD_ok cons_q55 (by kernel_rfl) (loops_mem loops_q55_2 (trivial)) S_q55_2_ok fun _ _ h => h
theorem S_q55_1_ok (x : Tys D_q55_1.head.ks) : stepL E_q55 D_q55_1 body_q55_1 x = S_impl_natDiv_1 x := by kernel_rfl
theorem loops_q55_1 : loopsIn body_q55_1 = [body_q55_2, body_q55_3, body_q55_4] := by kernel_rfl
theorem l_q55_1 : LoopOk Tryz.prog (mkLM D_q55_1 S_q55_1_w) body_q55_1 := loop_ok2 mix layD_ok cons_q55 (by kernel_rfl) (loops_mem loops_q55_1 (⟨⟨_, by kernel_rfl, l_q55_2⟩, ⟨⟨_, by kernel_rfl, l_q55_3⟩, ⟨⟨_, by kernel_rfl, l_q55_4⟩, trivial⟩⟩⟩)) S_q55_1_ok fun _ _ h => h
theorem S_q55_0_ok (x : Tys D_q55_0.head.ks) : stepL E_q55 D_q55_0 body_q55_0 x = S_impl_natDiv_0 x := by kernel_rfl
theorem loops_q55_0 : loopsIn body_q55_0 = [] := by kernel_rfl
theorem l_q55_0 : LoopOk Tryz.prog (mkLM D_q55_0 S_q55_0_w) body_q55_0 := loop_ok2 mix layD_ok cons_q55 (by kernel_rfl) (loops_mem loops_q55_0 (trivial)) S_q55_0_ok fun _ _ h => h
theorem loops_q55 : loopsIn code_q55 = [body_q55_0, body_q55_1] := by kernel_rfl
theorem m_q55 : Meets Tryz.prog 169 c_q55 := meets_of (E := E_q55) (code := code_q55) mix layD_ok cons_q55 Tryz.func169 (by kernel_rfl) sg_q55 (by kernel_rfl) (fun y => (y.1, y.2.1)) c_q55.out (fun _ => rfl) c_q55.run (fun x => by kernel_rfl) (by kernel_rfl) (loops_mem loops_q55 (⟨⟨_, by kernel_rfl, l_q55_0⟩, ⟨⟨_, by kernel_rfl, l_q55_1⟩, trivial⟩⟩))
noncomputable def sg_q56 : Sig := ⟨[(false, [.d (.sl .int)]), (false, [.d (.sl .int)])], [], false, [(false, [.own 0])], [(0, .arr false .int)]⟩
noncomputable def c_q56 : Con := ⟨sg_q56, List Int, fun x => M_impl_natGcd x.1 x.2.1, fun r => (r, ())⟩
noncomputable def code_q56 : Code := Tryz.f132.body.getD .skip
noncomputable def body_q56_0 : Code := (loopsIn code_q56).getD 0 .skip
noncomputable def body_q56_1 : Code := (loopsIn code_q56).getD 1 .skip
noncomputable def D_q56_0 : LoopD := ⟨⟨mkSlots [(0, false, [.d (.sl .int)]), (1, false, [.d (.sl .int)])] 49 0, []⟩, [], [(.exit 0, ⟨mkSlots [(0, false, [.d (.sl .int)]), (1, false, [.d (.sl .int)])] 49 0, []⟩, [])]⟩
noncomputable def D_q56_1 : LoopD := ⟨⟨mkSlots [(7, false, [.d (.int .i64)]), (8, false, [.d (.int .i64)])] 49 0, []⟩, [], [(.exit 2, ⟨mkSlots [(7, false, [.d (.int .i64)])] 49 0, []⟩, [])]⟩
noncomputable def S_q56_0_w (x : Tys D_q56_0.head.ks) : Option (OutT D_q56_0.outs) := @whileO ((List Int) × (List Int) × Unit) ((List Int) × (List Int) × Unit) S_impl_natGcd_0 x
noncomputable def S_q56_1_w (x : Tys D_q56_1.head.ks) : Option (OutT D_q56_1.outs) := @whileO (Int × Int × Unit) (Int × Unit) S_impl_natGcd_1 x
noncomputable def E_q56 : Env := ⟨layD, [(169, c_q55), (142, c_q50)], [(1, mkLM D_q56_0 S_q56_0_w), (7, mkLM D_q56_1 S_q56_1_w)], [(6, [(0, []), (1, []), (2, []), (3, []), (4, []), (5, []), (6, [2, 0, 1]), (7, [5, 6, 0, 1, 2, 3, 4])]), (8, [(0, []), (1, []), (2, []), (3, []), (4, [0, 1]), (5, [3, 4, 0, 1, 2])])]⟩
theorem cons_q56 : ConsOk Tryz.prog E_q56.cons := consOk_cons m_q55 (callable_of Tryz.func169 (by kernel_rfl)) (consOk_cons m_q50 (callable_of Tryz.func142 (by kernel_rfl)) (consOk_nil))
theorem S_q56_1_ok (x : Tys D_q56_1.head.ks) : stepL E_q56 D_q56_1 body_q56_1 x = S_impl_natGcd_1 x := by kernel_rfl
theorem loops_q56_1 : loopsIn body_q56_1 = [] := by kernel_rfl
theorem l_q56_1 : LoopOk Tryz.prog (mkLM D_q56_1 S_q56_1_w) body_q56_1 := loop_ok2 mix layD_ok cons_q56 (by kernel_rfl) (loops_mem loops_q56_1 (trivial)) S_q56_1_ok fun _ _ h => h
theorem S_q56_0_ok (x : Tys D_q56_0.head.ks) : stepL E_q56 D_q56_0 body_q56_0 x = S_impl_natGcd_0 x := by kernel_rfl
theorem loops_q56_0 : loopsIn body_q56_0 = [] := by kernel_rfl
theorem l_q56_0 : LoopOk Tryz.prog (mkLM D_q56_0 S_q56_0_w) body_q56_0 := loop_ok2 mix layD_ok cons_q56 (by kernel_rfl) (loops_mem loops_q56_0 (trivial)) S_q56_0_ok fun _ _ h => h
theorem loops_q56 : loopsIn code_q56 = [body_q56_0, body_q56_1] := by kernel_rfl
theorem m_q56 : Meets Tryz.prog 132 c_q56 := meets_of (E := E_q56) (code := code_q56) mix layD_ok cons_q56 Tryz.func132 (by kernel_rfl) sg_q56 (by kernel_rfl) (fun y => y.1) c_q56.out (fun _ => rfl) c_q56.run (fun x => by kernel_rfl) (by kernel_rfl) (loops_mem loops_q56 (⟨⟨_, by kernel_rfl, l_q56_0⟩, ⟨⟨_, by kernel_rfl, l_q56_1⟩, trivial⟩⟩))
noncomputable def sg_q57 : Sig := ⟨[(false, [.d (.sl .int)])], [], false, [(false, [.d (.bool)])], []⟩
noncomputable def c_q57 : Con := ⟨sg_q57, Bool, fun x => M_impl_isOne x.1, fun r => (r, ())⟩
noncomputable def code_q57 : Code := Tryz.f131.body.getD .skip
noncomputable def E_q57 : Env := ⟨layD, [], [], []⟩
theorem cons_q57 : ConsOk Tryz.prog E_q57.cons := consOk_nil
theorem loops_q57 : loopsIn code_q57 = [] := by kernel_rfl
theorem m_q57 : Meets Tryz.prog 131 c_q57 := meets_of (E := E_q57) (code := code_q57) mix layD_ok cons_q57 Tryz.func131 (by kernel_rfl) sg_q57 (by kernel_rfl) (fun y => y.1) c_q57.out (fun _ => rfl) c_q57.run (fun x => by kernel_rfl) (by kernel_rfl) (loops_mem loops_q57 (trivial))
noncomputable def sg_q58 : Sig := ⟨[(true, [.d (.bool), .d (.sl .int), .d (.sl .int)])], [], false, [(false, [.d (.bool)])], []⟩
noncomputable def c_q58 : Con := ⟨sg_q58, Bool, fun x => M_impl_RatOk (⟨x.1, x.2.1, x.2.2.1⟩ : Rt), fun r => (r, ())⟩
noncomputable def code_q58 : Code := Tryz.f73.body.getD .skip
noncomputable def E_q58 : Env := ⟨layD, [(129, c_q48), (130, c_q47), (132, c_q56), (131, c_q57)], [], []⟩
theorem cons_q58 : ConsOk Tryz.prog E_q58.cons := consOk_cons m_q48 (callable_of Tryz.func129 (by kernel_rfl)) (consOk_cons m_q47 (callable_of Tryz.func130 (by kernel_rfl)) (consOk_cons m_q56 (callable_of Tryz.func132 (by kernel_rfl)) (consOk_cons m_q57 (callable_of Tryz.func131 (by kernel_rfl)) (consOk_nil))))
theorem loops_q58 : loopsIn code_q58 = [] := by kernel_rfl
theorem m_q58 : Meets Tryz.prog 73 c_q58 := meets_of (E := E_q58) (code := code_q58) mix layD_ok cons_q58 Tryz.func73 (by kernel_rfl) sg_q58 (by kernel_rfl) (fun y => y.1) c_q58.out (fun _ => rfl) c_q58.run (fun x => by kernel_rfl) (by kernel_rfl) (loops_mem loops_q58 (trivial))
noncomputable def sg_q59 : Sig := ⟨[(true, [.d (.int .i64), .d (.int .i64), .d (.sl .rat)])], [], false, [(false, [.d (.bool)])], []⟩
noncomputable def c_q59 : Con := ⟨sg_q59, Bool, fun x => M_impl_MatrixOk (⟨x.1, x.2.1, x.2.2.1⟩ : Mx), fun r => (r, ())⟩
noncomputable def code_q59 : Code := Tryz.f64.body.getD .skip
noncomputable def body_q59_0 : Code := (loopsIn code_q59).getD 0 .skip
noncomputable def D_q59_0 : LoopD := ⟨⟨mkSlots [(27, false, [.d (.sl .rat)]), (28, false, [.d (.int .i64)]), (29, false, [.d (.int .i64)])] 37 0, []⟩, [], [(.ret, ⟨mkSlots [(2, false, [.d (.bool)])] 37 0, []⟩, []), (.exit 0, ⟨mkSlots [] 37 0, []⟩, [])]⟩
noncomputable def S_q59_0_w (x : Tys D_q59_0.head.ks) : Option (OutT D_q59_0.outs) := @whileO ((List Rt) × Int × Int × Unit) ((Bool × Unit) ⊕ (Unit)) S_impl_MatrixOk_0 x
noncomputable def E_q59 : Env := ⟨layD, [(75, c_q46), (73, c_q58)], [(4, mkLM D_q59_0 S_q59_0_w)], []⟩
theorem cons_q59 : ConsOk Tryz.prog E_q59.cons := consOk_cons m_q46 (callable_of Tryz.func75 (by kernel_rfl)) (consOk_cons m_q58 (callable_of Tryz.func73 (by kernel_rfl)) (consOk_nil))
theorem S_q59_0_ok (x : Tys D_q59_0.head.ks) : stepL E_q59 D_q59_0 body_q59_0 x = S_impl_MatrixOk_0 x := by kernel_rfl
theorem loops_q59_0 : loopsIn body_q59_0 = [] := by kernel_rfl
theorem l_q59_0 : LoopOk Tryz.prog (mkLM D_q59_0 S_q59_0_w) body_q59_0 := loop_ok2 mix layD_ok cons_q59 (by kernel_rfl) (loops_mem loops_q59_0 (trivial)) S_q59_0_ok fun _ _ h => h
theorem loops_q59 : loopsIn code_q59 = [body_q59_0] := by kernel_rfl
theorem m_q59 : Meets Tryz.prog 64 c_q59 := meets_of (E := E_q59) (code := code_q59) mix layD_ok cons_q59 Tryz.func64 (by kernel_rfl) sg_q59 (by kernel_rfl) (fun y => y.1) c_q59.out (fun _ => rfl) c_q59.run (fun x => by kernel_rfl) (by kernel_rfl) (loops_mem loops_q59 (⟨⟨_, by kernel_rfl, l_q59_0⟩, trivial⟩))
noncomputable def sg_q60 : Sig := ⟨[(true, [.d (.int .i64), .d (.int .i64), .d (.sl .rat)]), (false, [.d (.int .i64)]), (false, [.d (.int .i64)])], [], false, [(true, [.d (.bool), .d (.sl .int), .d (.sl .int)])], []⟩
noncomputable def c_q60 : Con := ⟨sg_q60, Rt, fun x => M_impl_Matrix_at (⟨x.1, x.2.1, x.2.2.1⟩ : Mx) x.2.2.2.1 x.2.2.2.2.1, fun r => (r.neg, r.mag, r.den, ())⟩
noncomputable def code_q60 : Code := Tryz.f72.body.getD .skip
noncomputable def E_q60 : Env := ⟨layD, [], [], []⟩
theorem cons_q60 : ConsOk Tryz.prog E_q60.cons := consOk_nil
theorem loops_q60 : loopsIn code_q60 = [] := by kernel_rfl
theorem m_q60 : Meets Tryz.prog 72 c_q60 := meets_of (E := E_q60) (code := code_q60) mix layD_ok cons_q60 Tryz.func72 (by kernel_rfl) sg_q60 (by kernel_rfl) (fun y => (⟨y.1, y.2.1, y.2.2.1⟩ : Rt)) c_q60.out (fun _ => rfl) c_q60.run (fun x => by kernel_rfl) (by kernel_rfl) (loops_mem loops_q60 (trivial))
noncomputable def sg_q61 : Sig := ⟨[(true, [.d (.bool), .d (.sl .int), .d (.sl .int)])], [], false, [(true, [.d (.bool), .own 0, .own 1])], [(0, .arr false .int), (1, .arr false .int)]⟩
noncomputable def c_q61 : Con := ⟨sg_q61, Rt, fun x => M_impl_copyRat (⟨x.1, x.2.1, x.2.2.1⟩ : Rt), fun r => (r.neg, r.mag, r.den, ())⟩
noncomputable def code_q61 : Code := Tryz.f84.body.getD .skip
noncomputable def E_q61 : Env := ⟨layD, [(142, c_q50)], [], [(1, [(0, []), (1, []), (2, []), (3, []), (4, []), (5, []), (8, []), (9, []), (6, [5, 4, 3]), (7, []), (10, [9, 6, 8, 5, 4, 3]), (11, []), (12, [11, 10, 0, 1, 2, 3, 4, 5, 6, 7, 8, 9])])]⟩
theorem cons_q61 : ConsOk Tryz.prog E_q61.cons := consOk_cons m_q50 (callable_of Tryz.func142 (by kernel_rfl)) (consOk_nil)
theorem loops_q61 : loopsIn code_q61 = [] := by kernel_rfl
theorem m_q61 : Meets Tryz.prog 84 c_q61 := meets_of (E := E_q61) (code := code_q61) mix layD_ok cons_q61 Tryz.func84 (by kernel_rfl) sg_q61 (by kernel_rfl) (fun y => (⟨y.1, y.2.1, y.2.2.1⟩ : Rt)) c_q61.out (fun _ => rfl) c_q61.run (fun x => by kernel_rfl) (by kernel_rfl) (loops_mem loops_q61 (trivial))
noncomputable def sg_q62 : Sig := ⟨[(false, [.d (.int .i64)]), (false, [.d (.int .i64)]), (false, [.sp [.int .i64, .int .i64, .sl .rat]])], [], false, [(true, [.d (.bool), .own 0, .own 1])], [(0, .arr false .int), (1, .arr false .int)]⟩
noncomputable def c_q62 : Con := ⟨sg_q62, Rt, fun x => M_impl_turned_c1 x.1 x.2.1 (⟨x.2.2.1, x.2.2.2.1, x.2.2.2.2.1⟩ : Mx), fun r => (r.neg, r.mag, r.den, ())⟩
noncomputable def code_q62 : Code := Tryz.f144.body.getD .skip
noncomputable def E_q62 : Env := ⟨layD, [(72, c_q60), (84, c_q61)], [], []⟩
theorem cons_q62 : ConsOk Tryz.prog E_q62.cons := consOk_cons m_q60 (callable_of Tryz.func72 (by kernel_rfl)) (consOk_cons m_q61 (callable_of Tryz.func84 (by kernel_rfl)) (consOk_nil))
theorem loops_q62 : loopsIn code_q62 = [] := by kernel_rfl
theorem m_q62 : Meets Tryz.prog 144 c_q62 := meets_of (E := E_q62) (code := code_q62) mix layD_ok cons_q62 Tryz.func144 (by kernel_rfl) sg_q62 (by kernel_rfl) (fun y => (⟨y.1, y.2.1, y.2.2.1⟩ : Rt)) c_q62.out (fun _ => rfl) c_q62.run (fun x => by kernel_rfl) (by kernel_rfl) (loops_mem loops_q62 (trivial))
noncomputable def sg_q63 : Sig := ⟨[(false, [.d (.int .i64)]), (false, [.d (.int .i64)]), (false, [.fn 144 [[.int .i64, .int .i64, .sl .rat]]])], [], false, [(true, [.d (.int .i64), .d (.int .i64), .dp 0])], [(0, .deep .rat)]⟩
noncomputable def c_q63 : Con := ⟨sg_q63, Mx, fun x => M_impl_built__impl_turned_c1 x.1 x.2.1 (⟨x.2.2.1, x.2.2.2.1, x.2.2.2.2.1⟩ : Mx), fun r => (r.rows, r.cols, r.cells, ())⟩
noncomputable def code_q63 : Code := Tryz.f76.body.getD .skip
noncomputable def body_q63_0 : Code := (loopsIn code_q63).getD 0 .skip
noncomputable def body_q63_1 : Code := (loopsIn body_q63_0).getD 0 .skip
noncomputable def D_q63_0 : LoopD := ⟨⟨mkSlots [(1, false, [.d (.int .i64)]), (2, false, [.fn 144 [[.int .i64, .int .i64, .sl .rat]]]), (6, false, [.lp 384 0]), (7, false, [.lp 448 0]), (13, false, [.d (.int .i64)]), (14, false, [.d (.int .i64)])] 33 0, [(384, .box [.d (.int .i64), .d (.int .i64), .d (.sl .rat)]), (448, .box [.d (.int .i64), .d (.int .i64), .dp 2176]), (2176, .deep .rat)]⟩, [(.boxD 448 2, 2176, .rat)], [(.exit 0, ⟨mkSlots [(6, false, [.lp 384 0]), (7, false, [.lp 448 0])] 33 0, [(384, .box [.d (.int .i64), .d (.int .i64), .d (.sl .rat)]), (448, .box [.d (.int .i64), .d (.int .i64), .dp 2176]), (2176, .deep .rat)]⟩, [(.boxD 448 2, 2176, .rat)])]⟩
noncomputable def D_q63_1 : LoopD := ⟨⟨mkSlots [(1, false, [.d (.int .i64)]), (2, false, [.fn 144 [[.int .i64, .int .i64, .sl .rat]]]), (6, false, [.lp 384 0]), (7, false, [.lp 448 0]), (8, false, [.d (.int .i64)]), (13, false, [.d (.int .i64)]), (14, false, [.d (.int .i64)]), (17, false, [.d (.int .i64)]), (18, false, [.d (.int .i64)])] 33 0, [(384, .box [.d (.int .i64), .d (.int .i64), .d (.sl .rat)]), (448, .box [.d (.int .i64), .d (.int .i64), .dp 2176]), (2176, .deep .rat)]⟩, [(.boxD 448 2, 2176, .rat)], [(.exit 2, ⟨mkSlots [(1, false, [.d (.int .i64)]), (2, false, [.fn 144 [[.int .i64, .int .i64, .sl .rat]]]), (6, false, [.lp 384 0]), (7, false, [.lp 448 0]), (13, false, [.d (.int .i64)]), (14, false, [.d (.int .i64)])] 33 0, [(384, .box [.d (.int .i64), .d (.int .i64), .d (.sl .rat)]), (448, .box [.d (.int .i64), .d (.int .i64), .dp 2176]), (2176, .deep .rat)]⟩, [(.boxD 448 2, 2176, .rat)])]⟩
noncomputable def S_q63_0_w (x : Tys D_q63_0.head.ks) : Option (OutT D_q63_0.outs) := @whileO (Int × Int × Int × (List Rt) × Int × Int × Int × Int × (List Rt) × Int × Int × (List Rt) × Unit) (Int × Int × (List Rt) × Int × Int × (List Rt) × Unit) S_impl_built__impl_turned_c1_0 x
noncomputable def S_q63_1_w (x : Tys D_q63_1.head.ks) : Option (OutT D_q63_1.outs) := @whileO (Int × Int × Int × (List Rt) × Int × Int × Int × Int × Int × Int × Int × (List Rt) × Int × Int × (List Rt) × Unit) (Int × Int × Int × (List Rt) × Int × Int × Int × Int × (List Rt) × Int × Int × (List Rt) × Unit) S_impl_built__impl_turned_c1_1 x
noncomputable def E_q63 : Env := ⟨layD, [(144, c_q62)], [(3, mkLM D_q63_0 S_q63_0_w), (6, mkLM D_q63_1 S_q63_1_w)], [(8, [(0, []), (1, []), (2, []), (3, []), (4, []), (5, [2, 3, 4]), (6, [5, 2, 3, 4]), (7, [1, 6, 5, 0, 2, 3, 4]), (8, []), (9, [8, 7, 0, 1, 2, 3, 4, 5, 6])])]⟩
theorem cons_q63 : ConsOk Tryz.prog E_q63.cons := consOk_cons m_q62 (callable_of Tryz.func144 (by kernel_rfl)) (consOk_nil)
theorem S_q63_1_ok (x : Tys D_q63_1.head.ks) : stepL E_q63 D_q63_1 body_q63_1 x = S_impl_built__impl_turned_c1_1 x := by kernel_rfl
theorem loops_q63_1 : loopsIn body_q63_1 = [] := by kernel_rfl
theorem l_q63_1 : LoopOk Tryz.prog (mkLM D_q63_1 S_q63_1_w) body_q63_1 := loop_ok2 mix layD_ok cons_q63 (by kernel_rfl) (loops_mem loops_q63_1 (trivial)) S_q63_1_ok fun _ _ h => h
theorem S_q63_0_ok (x : Tys D_q63_0.head.ks) : stepL E_q63 D_q63_0 body_q63_0 x = S_impl_built__impl_turned_c1_0 x := by kernel_rfl
theorem loops_q63_0 : loopsIn body_q63_0 = [body_q63_1] := by kernel_rfl
theorem l_q63_0 : LoopOk Tryz.prog (mkLM D_q63_0 S_q63_0_w) body_q63_0 := loop_ok2 mix layD_ok cons_q63 (by kernel_rfl) (loops_mem loops_q63_0 (⟨⟨_, by kernel_rfl, l_q63_1⟩, trivial⟩)) S_q63_0_ok fun _ _ h => h
theorem loops_q63 : loopsIn code_q63 = [body_q63_0] := by kernel_rfl
theorem m_q63 : Meets Tryz.prog 76 c_q63 := meets_of (E := E_q63) (code := code_q63) mix layD_ok cons_q63 Tryz.func76 (by kernel_rfl) sg_q63 (by kernel_rfl) (fun y => (⟨y.1, y.2.1, y.2.2.1⟩ : Mx)) c_q63.out (fun _ => rfl) c_q63.run (fun x => by kernel_rfl) (by kernel_rfl) (loops_mem loops_q63 (⟨⟨_, by kernel_rfl, l_q63_0⟩, trivial⟩))
noncomputable def sg_q64 : Sig := ⟨[(true, [.d (.int .i64), .d (.int .i64), .d (.sl .rat)])], [], false, [(true, [.d (.int .i64), .d (.int .i64), .dp 0])], [(0, .deep .rat)]⟩
noncomputable def c_q64 : Con := ⟨sg_q64, Mx, fun x => M_impl_turned (⟨x.1, x.2.1, x.2.2.1⟩ : Mx), fun r => (r.rows, r.cols, r.cells, ())⟩
noncomputable def code_q64 : Code := Tryz.f88.body.getD .skip
noncomputable def E_q64 : Env := ⟨layD, [(76, c_q63)], [], []⟩
theorem cons_q64 : ConsOk Tryz.prog E_q64.cons := consOk_cons m_q63 (callable_of Tryz.func76 (by kernel_rfl)) (consOk_nil)
theorem loops_q64 : loopsIn code_q64 = [] := by kernel_rfl
theorem m_q64 : Meets Tryz.prog 88 c_q64 := meets_of (E := E_q64) (code := code_q64) mix layD_ok cons_q64 Tryz.func88 (by kernel_rfl) sg_q64 (by kernel_rfl) (fun y => (⟨y.1, y.2.1, y.2.2.1⟩ : Mx)) c_q64.out (fun _ => rfl) c_q64.run (fun x => by kernel_rfl) (by kernel_rfl) (loops_mem loops_q64 (trivial))
noncomputable def sg_q65 : Sig := ⟨[(false, [.d (.sl .int)]), (false, [.d (.sl .int)])], [], false, [(false, [.d (.bool)])], []⟩
noncomputable def c_q65 : Con := ⟨sg_q65, Bool, fun x => M_impl_sameInts x.1 x.2.1, fun r => (r, ())⟩
noncomputable def code_q65 : Code := Tryz.f135.body.getD .skip
noncomputable def body_q65_0 : Code := (loopsIn code_q65).getD 0 .skip
noncomputable def D_q65_0 : LoopD := ⟨⟨mkSlots [(0, false, [.d (.sl .int)]), (1, false, [.d (.sl .int)]), (12, false, [.d (.int .i64)]), (13, false, [.d (.int .i64)])] 26 0, []⟩, [], [(.ret, ⟨mkSlots [(4, false, [.d (.bool)])] 26 0, []⟩, []), (.exit 0, ⟨mkSlots [] 26 0, []⟩, [])]⟩
noncomputable def S_q65_0_w (x : Tys D_q65_0.head.ks) : Option (OutT D_q65_0.outs) := @whileO ((List Int) × (List Int) × Int × Int × Unit) ((Bool × Unit) ⊕ (Unit)) S_impl_sameInts_0 x
noncomputable def E_q65 : Env := ⟨layD, [], [(4, mkLM D_q65_0 S_q65_0_w)], [(6, [(0, []), (1, []), (2, []), (3, []), (4, []), (5, []), (6, []), (7, []), (8, [])])]⟩
theorem cons_q65 : ConsOk Tryz.prog E_q65.cons := consOk_nil
theorem S_q65_0_ok (x : Tys D_q65_0.head.ks) : stepL E_q65 D_q65_0 body_q65_0 x = S_impl_sameInts_0 x := by kernel_rfl
theorem loops_q65_0 : loopsIn body_q65_0 = [] := by kernel_rfl
theorem l_q65_0 : LoopOk Tryz.prog (mkLM D_q65_0 S_q65_0_w) body_q65_0 := loop_ok2 mix layD_ok cons_q65 (by kernel_rfl) (loops_mem loops_q65_0 (trivial)) S_q65_0_ok fun _ _ h => h
theorem loops_q65 : loopsIn code_q65 = [body_q65_0] := by kernel_rfl
theorem m_q65 : Meets Tryz.prog 135 c_q65 := meets_of (E := E_q65) (code := code_q65) mix layD_ok cons_q65 Tryz.func135 (by kernel_rfl) sg_q65 (by kernel_rfl) (fun y => y.1) c_q65.out (fun _ => rfl) c_q65.run (fun x => by kernel_rfl) (by kernel_rfl) (loops_mem loops_q65 (⟨⟨_, by kernel_rfl, l_q65_0⟩, trivial⟩))
noncomputable def sg_q66 : Sig := ⟨[(true, [.d (.bool), .d (.sl .int), .d (.sl .int)]), (true, [.d (.bool), .d (.sl .int), .d (.sl .int)])], [], false, [(false, [.d (.bool)])], []⟩
noncomputable def c_q66 : Con := ⟨sg_q66, Bool, fun x => M_impl_RatEqual (⟨x.1, x.2.1, x.2.2.1⟩ : Rt) (⟨x.2.2.2.1, x.2.2.2.2.1, x.2.2.2.2.2.1⟩ : Rt), fun r => (r, ())⟩
noncomputable def code_q66 : Code := Tryz.f80.body.getD .skip
noncomputable def E_q66 : Env := ⟨layD, [(135, c_q65)], [], []⟩
theorem cons_q66 : ConsOk Tryz.prog E_q66.cons := consOk_cons m_q65 (callable_of Tryz.func135 (by kernel_rfl)) (consOk_nil)
theorem loops_q66 : loopsIn code_q66 = [] := by kernel_rfl
theorem m_q66 : Meets Tryz.prog 80 c_q66 := meets_of (E := E_q66) (code := code_q66) mix layD_ok cons_q66 Tryz.func80 (by kernel_rfl) sg_q66 (by kernel_rfl) (fun y => y.1) c_q66.out (fun _ => rfl) c_q66.run (fun x => by kernel_rfl) (by kernel_rfl) (loops_mem loops_q66 (trivial))
noncomputable def sg_q67 : Sig := ⟨[(false, [.d (.sl .rat)]), (false, [.d (.sl .rat)])], [], false, [(false, [.d (.bool)])], []⟩
noncomputable def c_q67 : Con := ⟨sg_q67, Bool, fun x => M_impl_EqualVectors x.1 x.2.1, fun r => (r, ())⟩
noncomputable def code_q67 : Code := Tryz.f24.body.getD .skip
noncomputable def body_q67_0 : Code := (loopsIn code_q67).getD 0 .skip
noncomputable def D_q67_0 : LoopD := ⟨⟨mkSlots [(0, false, [.d (.sl .rat)]), (1, false, [.d (.sl .rat)]), (12, false, [.d (.int .i64)]), (13, false, [.d (.int .i64)])] 27 0, []⟩, [], [(.ret, ⟨mkSlots [(4, false, [.d (.bool)])] 27 0, []⟩, []), (.exit 0, ⟨mkSlots [] 27 0, []⟩, [])]⟩
noncomputable def S_q67_0_w (x : Tys D_q67_0.head.ks) : Option (OutT D_q67_0.outs) := @whileO ((List Rt) × (List Rt) × Int × Int × Unit) ((Bool × Unit) ⊕ (Unit)) S_impl_EqualVectors_0 x
noncomputable def E_q67 : Env := ⟨layD, [(80, c_q66)], [(4, mkLM D_q67_0 S_q67_0_w)], [(6, [(0, []), (1, []), (2, []), (3, []), (4, []), (5, []), (6, []), (7, []), (8, [3, 7, 2, 6, 0, 1, 4, 5]), (9, [])])]⟩
theorem cons_q67 : ConsOk Tryz.prog E_q67.cons := consOk_cons m_q66 (callable_of Tryz.func80 (by kernel_rfl)) (consOk_nil)
theorem S_q67_0_ok (x : Tys D_q67_0.head.ks) : stepL E_q67 D_q67_0 body_q67_0 x = S_impl_EqualVectors_0 x := by kernel_rfl
theorem loops_q67_0 : loopsIn body_q67_0 = [] := by kernel_rfl
theorem l_q67_0 : LoopOk Tryz.prog (mkLM D_q67_0 S_q67_0_w) body_q67_0 := loop_ok2 mix layD_ok cons_q67 (by kernel_rfl) (loops_mem loops_q67_0 (trivial)) S_q67_0_ok fun _ _ h => h
theorem loops_q67 : loopsIn code_q67 = [body_q67_0] := by kernel_rfl
theorem m_q67 : Meets Tryz.prog 24 c_q67 := meets_of (E := E_q67) (code := code_q67) mix layD_ok cons_q67 Tryz.func24 (by kernel_rfl) sg_q67 (by kernel_rfl) (fun y => y.1) c_q67.out (fun _ => rfl) c_q67.run (fun x => by kernel_rfl) (by kernel_rfl) (loops_mem loops_q67 (⟨⟨_, by kernel_rfl, l_q67_0⟩, trivial⟩))
noncomputable def sg_q68 : Sig := ⟨[(true, [.d (.int .i64), .d (.int .i64), .d (.sl .rat)]), (true, [.d (.int .i64), .d (.int .i64), .d (.sl .rat)])], [], false, [(false, [.d (.bool)])], []⟩
noncomputable def c_q68 : Con := ⟨sg_q68, Bool, fun x => M_impl_EqualMatrices (⟨x.1, x.2.1, x.2.2.1⟩ : Mx) (⟨x.2.2.2.1, x.2.2.2.2.1, x.2.2.2.2.2.1⟩ : Mx), fun r => (r, ())⟩
noncomputable def code_q68 : Code := Tryz.f19.body.getD .skip
noncomputable def E_q68 : Env := ⟨layD, [(24, c_q67)], [], []⟩
theorem cons_q68 : ConsOk Tryz.prog E_q68.cons := consOk_cons m_q67 (callable_of Tryz.func24 (by kernel_rfl)) (consOk_nil)
theorem loops_q68 : loopsIn code_q68 = [] := by kernel_rfl
theorem m_q68 : Meets Tryz.prog 19 c_q68 := meets_of (E := E_q68) (code := code_q68) mix layD_ok cons_q68 Tryz.func19 (by kernel_rfl) sg_q68 (by kernel_rfl) (fun y => y.1) c_q68.out (fun _ => rfl) c_q68.run (fun x => by kernel_rfl) (by kernel_rfl) (loops_mem loops_q68 (trivial))
noncomputable def sg_q69 : Sig := ⟨[(true, [.d (.int .i64), .d (.int .i64), .d (.sl .rat)])], [], false, [(false, [.d (.bool)])], []⟩
noncomputable def c_q69 : Con := ⟨sg_q69, Bool, fun x => M_impl_IsSymmetric (⟨x.1, x.2.1, x.2.2.1⟩ : Mx), fun r => (r, ())⟩
noncomputable def code_q69 : Code := Tryz.f28.body.getD .skip
noncomputable def E_q69 : Env := ⟨layD, [(64, c_q59), (88, c_q64), (19, c_q68)], [], [(1, [(0, []), (1, [0]), (2, []), (3, []), (4, []), (5, [4, 2, 1, 0]), (6, [3, 5, 2, 4, 1, 0]), (7, []), (8, [7, 6, 0, 1, 2, 3, 4, 5])])]⟩
theorem cons_q69 : ConsOk Tryz.prog E_q69.cons := consOk_cons m_q59 (callable_of Tryz.func64 (by kernel_rfl)) (consOk_cons m_q64 (callable_of Tryz.func88 (by kernel_rfl)) (consOk_cons m_q68 (callable_of Tryz.func19 (by kernel_rfl)) (consOk_nil)))
theorem loops_q69 : loopsIn code_q69 = [] := by kernel_rfl
theorem m_q69 : Meets Tryz.prog 28 c_q69 := meets_of (E := E_q69) (code := code_q69) mix layD_ok cons_q69 Tryz.func28 (by kernel_rfl) sg_q69 (by kernel_rfl) (fun y => y.1) c_q69.out (fun _ => rfl) c_q69.run (fun x => by kernel_rfl) (by kernel_rfl) (loops_mem loops_q69 (trivial))
noncomputable def sg_q70 : Sig := ⟨[(false, [.d (.bool)]), (false, [.own 64])], [(64, .arr false .int)], false, [(true, [.d (.bool), .own 0])], [(0, .arr false .int)]⟩
noncomputable def c_q70 : Con := ⟨sg_q70, Bg, fun x => M_impl_signed_dc x.1 x.2.1, fun r => (r.neg, r.mag, ())⟩
noncomputable def code_q70 : Code := Tryz.f170.body.getD .skip
noncomputable def E_q70 : Env := ⟨layD, [], [], []⟩
theorem cons_q70 : ConsOk Tryz.prog E_q70.cons := consOk_nil
theorem loops_q70 : loopsIn code_q70 = [] := by kernel_rfl
theorem m_q70 : Meets Tryz.prog 170 c_q70 := meets_of (E := E_q70) (code := code_q70) mix layD_ok cons_q70 Tryz.func170 (by kernel_rfl) sg_q70 (by kernel_rfl) (fun y => (⟨y.1, y.2.1⟩ : Bg)) c_q70.out (fun _ => rfl) c_q70.run (fun x => by kernel_rfl) (by kernel_rfl) (loops_mem loops_q70 (trivial))
noncomputable def sg_q71 : Sig := ⟨[(false, [.d (.sl .int)]), (false, [.d (.sl .int)])], [], false, [(false, [.own 0])], [(0, .arr false .int)]⟩
noncomputable def c_q71 : Con := ⟨sg_q71, List Int, fun x => M_impl_natAdd x.1 x.2.1, fun r => (r, ())⟩
noncomputable def code_q71 : Code := Tryz.f193.body.getD .skip
noncomputable def body_q71_0 : Code := (loopsIn code_q71).getD 0 .skip
noncomputable def D_q71_0 : LoopD := ⟨⟨mkSlots [(0, false, [.d (.sl .int)]), (1, false, [.d (.sl .int)]), (5, false, [.own 3648]), (6, false, [.d (.int .i64)]), (21, false, [.d (.int .i64)]), (22, false, [.d (.int .i64)])] 56 0, [(3648, .arr false .int)]⟩, [], [(.exit 0, ⟨mkSlots [(5, false, [.own 3648]), (6, false, [.d (.int .i64)])] 56 0, [(3648, .arr false .int)]⟩, [])]⟩
noncomputable def S_q71_0_w (x : Tys D_q71_0.head.ks) : Option (OutT D_q71_0.outs) := @whileO ((List Int) × (List Int) × Int × Int × Int × (List Int) × Unit) (Int × (List Int) × Unit) S_impl_natAdd_0 x
noncomputable def E_q71 : Env := ⟨layD, [], [(6, mkLM D_q71_0 S_q71_0_w)], []⟩
theorem cons_q71 : ConsOk Tryz.prog E_q71.cons := consOk_nil
theorem S_q71_0_ok (x : Tys D_q71_0.head.ks) : stepL E_q71 D_q71_0 body_q71_0 x = S_impl_natAdd_0 x := by kernel_rfl
theorem loops_q71_0 : loopsIn body_q71_0 = [] := by kernel_rfl
theorem l_q71_0 : LoopOk Tryz.prog (mkLM D_q71_0 S_q71_0_w) body_q71_0 := loop_ok2 mix layD_ok cons_q71 (by kernel_rfl) (loops_mem loops_q71_0 (trivial)) S_q71_0_ok fun _ _ h => h
theorem loops_q71 : loopsIn code_q71 = [body_q71_0] := by kernel_rfl
theorem m_q71 : Meets Tryz.prog 193 c_q71 := meets_of (E := E_q71) (code := code_q71) mix layD_ok cons_q71 Tryz.func193 (by kernel_rfl) sg_q71 (by kernel_rfl) (fun y => y.1) c_q71.out (fun _ => rfl) c_q71.run (fun x => by kernel_rfl) (by kernel_rfl) (loops_mem loops_q71 (⟨⟨_, by kernel_rfl, l_q71_0⟩, trivial⟩))
noncomputable def sg_q72 : Sig := ⟨[(false, [.d (.int .i64)])], [], false, [(true, [.d (.bool), .own 0])], [(0, .arr false .int)]⟩
noncomputable def c_q72 : Con := ⟨sg_q72, Bg, fun x => M_impl_BigIntOf x.1, fun r => (r.neg, r.mag, ())⟩
noncomputable def code_q72 : Code := Tryz.f187.body.getD .skip
noncomputable def E_q72 : Env := ⟨layD, [(200, c_q52), (170, c_q70), (193, c_q71)], [], []⟩
theorem cons_q72 : ConsOk Tryz.prog E_q72.cons := consOk_cons m_q52 (callable_of Tryz.func200 (by kernel_rfl)) (consOk_cons m_q70 (callable_of Tryz.func170 (by kernel_rfl)) (consOk_cons m_q71 (callable_of Tryz.func193 (by kernel_rfl)) (consOk_nil)))
theorem loops_q72 : loopsIn code_q72 = [] := by kernel_rfl
theorem m_q72 : Meets Tryz.prog 187 c_q72 := meets_of (E := E_q72) (code := code_q72) mix layD_ok cons_q72 Tryz.func187 (by kernel_rfl) sg_q72 (by kernel_rfl) (fun y => (⟨y.1, y.2.1⟩ : Bg)) c_q72.out (fun _ => rfl) c_q72.run (fun x => by kernel_rfl) (by kernel_rfl) (loops_mem loops_q72 (trivial))
noncomputable def sg_q73 : Sig := ⟨[(false, [.d (.bool)]), (false, [.d (.sl .int)])], [], false, [(true, [.d (.bool), .d (.sl .int)])], []⟩
noncomputable def c_q73 : Con := ⟨sg_q73, Bg, fun x => M_impl_signed x.1 x.2.1, fun r => (r.neg, r.mag, ())⟩
noncomputable def code_q73 : Code := Tryz.f170.body.getD .skip
noncomputable def E_q73 : Env := ⟨layD, [], [], []⟩
theorem cons_q73 : ConsOk Tryz.prog E_q73.cons := consOk_nil
theorem loops_q73 : loopsIn code_q73 = [] := by kernel_rfl
theorem m_q73 : Meets Tryz.prog 170 c_q73 := meets_of (E := E_q73) (code := code_q73) mix layD_ok cons_q73 Tryz.func170 (by kernel_rfl) sg_q73 (by kernel_rfl) (fun y => (⟨y.1, y.2.1⟩ : Bg)) c_q73.out (fun _ => rfl) c_q73.run (fun x => by kernel_rfl) (by kernel_rfl) (loops_mem loops_q73 (trivial))
noncomputable def sg_q74 : Sig := ⟨[(true, [.d (.bool), .d (.sl .int)]), (false, [.d (.sl .int)])], [], false, [(true, [.d (.bool), .d (.sl .int), .d (.sl .int)])], []⟩
noncomputable def c_q74 : Con := ⟨sg_q74, Rt, fun x => M_impl_lowest (⟨x.1, x.2.1⟩ : Bg) x.2.2.1, fun r => (r.neg, r.mag, r.den, ())⟩
noncomputable def code_q74 : Code := Tryz.f125.body.getD .skip
noncomputable def E_q74 : Env := ⟨layD, [(132, c_q56), (131, c_q57), (169, c_q55), (170, c_q70)], [], []⟩
theorem cons_q74 : ConsOk Tryz.prog E_q74.cons := consOk_cons m_q56 (callable_of Tryz.func132 (by kernel_rfl)) (consOk_cons m_q57 (callable_of Tryz.func131 (by kernel_rfl)) (consOk_cons m_q55 (callable_of Tryz.func169 (by kernel_rfl)) (consOk_cons m_q70 (callable_of Tryz.func170 (by kernel_rfl)) (consOk_nil))))
theorem loops_q74 : loopsIn code_q74 = [] := by kernel_rfl
theorem m_q74 : Meets Tryz.prog 125 c_q74 := meets_of (E := E_q74) (code := code_q74) mix layD_ok cons_q74 Tryz.func125 (by kernel_rfl) sg_q74 (by kernel_rfl) (fun y => (⟨y.1, y.2.1, y.2.2.1⟩ : Rt)) c_q74.out (fun _ => rfl) c_q74.run (fun x => by kernel_rfl) (by kernel_rfl) (loops_mem loops_q74 (trivial))
noncomputable def sg_q75 : Sig := ⟨[(true, [.d (.bool), .d (.sl .int)]), (true, [.d (.bool), .d (.sl .int)])], [], false, [(true, [.d (.bool), .own 0, .own 1])], [(0, .arr false .int), (1, .arr false .int)]⟩
noncomputable def c_q75 : Con := ⟨sg_q75, Rt, fun x => M_impl_RatMake (⟨x.1, x.2.1⟩ : Bg) (⟨x.2.2.1, x.2.2.2.1⟩ : Bg), fun r => (r.neg, r.mag, r.den, ())⟩
noncomputable def code_q75 : Code := Tryz.f186.body.getD .skip
noncomputable def E_q75 : Env := ⟨layD, [(129, c_q48), (170, c_q73), (125, c_q74), (84, c_q61)], [], [(3, [(0, []), (1, []), (2, []), (3, []), (4, []), (5, []), (6, []), (8, []), (9, []), (7, [4, 6, 1, 3, 5, 0, 2]), (10, [7, 9, 4, 6, 8, 1, 3, 5, 0, 2]), (11, [10, 7, 9, 4, 6, 8, 1, 3, 5, 0, 2]), (12, [11, 0, 1, 2, 3, 4, 5, 6, 7, 8, 9, 10])])]⟩
theorem cons_q75 : ConsOk Tryz.prog E_q75.cons := consOk_cons m_q48 (callable_of Tryz.func129 (by kernel_rfl)) (consOk_cons m_q73 (callable_of Tryz.func170 (by kernel_rfl)) (consOk_cons m_q74 (callable_of Tryz.func125 (by kernel_rfl)) (consOk_cons m_q61 (callable_of Tryz.func84 (by kernel_rfl)) (consOk_nil))))
theorem loops_q75 : loopsIn code_q75 = [] := by kernel_rfl
theorem m_q75 : Meets Tryz.prog 186 c_q75 := meets_of (E := E_q75) (code := code_q75) mix layD_ok cons_q75 Tryz.func186 (by kernel_rfl) sg_q75 (by kernel_rfl) (fun y => (⟨y.1, y.2.1, y.2.2.1⟩ : Rt)) c_q75.out (fun _ => rfl) c_q75.run (fun x => by kernel_rfl) (by kernel_rfl) (loops_mem loops_q75 (trivial))
noncomputable def sg_q76 : Sig := ⟨[(false, [.d (.int .i64)]), (false, [.d (.int .i64)])], [], false, [(true, [.d (.bool), .own 0, .own 1])], [(0, .arr false .int), (1, .arr false .int)]⟩
noncomputable def c_q76 : Con := ⟨sg_q76, Rt, fun x => M_impl_RatOf x.1 x.2.1, fun r => (r.neg, r.mag, r.den, ())⟩
noncomputable def code_q76 : Code := Tryz.f168.body.getD .skip
noncomputable def E_q76 : Env := ⟨layD, [(187, c_q72), (186, c_q75)], [], []⟩
theorem cons_q76 : ConsOk Tryz.prog E_q76.cons := consOk_cons m_q72 (callable_of Tryz.func187 (by kernel_rfl)) (consOk_cons m_q75 (callable_of Tryz.func186 (by kernel_rfl)) (consOk_nil))
theorem loops_q76 : loopsIn code_q76 = [] := by kernel_rfl
theorem m_q76 : Meets Tryz.prog 168 c_q76 := meets_of (E := E_q76) (code := code_q76) mix layD_ok cons_q76 Tryz.func168 (by kernel_rfl) sg_q76 (by kernel_rfl) (fun y => (⟨y.1, y.2.1, y.2.2.1⟩ : Rt)) c_q76.out (fun _ => rfl) c_q76.run (fun x => by kernel_rfl) (by kernel_rfl) (loops_mem loops_q76 (trivial))
noncomputable def sg_q77 : Sig := ⟨[(false, [.d (.int .i64)])], [], false, [(true, [.d (.bool), .own 0, .own 1])], [(0, .arr false .int), (1, .arr false .int)]⟩
noncomputable def c_q77 : Con := ⟨sg_q77, Rt, fun x => M_impl_RatFromInt x.1, fun r => (r.neg, r.mag, r.den, ())⟩
noncomputable def code_q77 : Code := Tryz.f124.body.getD .skip
noncomputable def E_q77 : Env := ⟨layD, [(168, c_q76)], [], []⟩
theorem cons_q77 : ConsOk Tryz.prog E_q77.cons := consOk_cons m_q76 (callable_of Tryz.func168 (by kernel_rfl)) (consOk_nil)
theorem loops_q77 : loopsIn code_q77 = [] := by kernel_rfl
theorem m_q77 : Meets Tryz.prog 124 c_q77 := meets_of (E := E_q77) (code := code_q77) mix layD_ok cons_q77 Tryz.func124 (by kernel_rfl) sg_q77 (by kernel_rfl) (fun y => (⟨y.1, y.2.1, y.2.2.1⟩ : Rt)) c_q77.out (fun _ => rfl) c_q77.run (fun x => by kernel_rfl) (by kernel_rfl) (loops_mem loops_q77 (trivial))
noncomputable def sg_q78 : Sig := ⟨[(false, [.d (.int .i64)])], [], false, [(true, [.d (.bool), .own 0, .own 1])], [(0, .arr false .int), (1, .arr false .int)]⟩
noncomputable def c_q78 : Con := ⟨sg_q78, Rt, fun x => M_impl_whole x.1, fun r => (r.neg, r.mag, r.den, ())⟩
noncomputable def code_q78 : Code := Tryz.f67.body.getD .skip
noncomputable def E_q78 : Env := ⟨layD, [(124, c_q77)], [], []⟩
theorem cons_q78 : ConsOk Tryz.prog E_q78.cons := consOk_cons m_q77 (callable_of Tryz.func124 (by kernel_rfl)) (consOk_nil)
theorem loops_q78 : loopsIn code_q78 = [] := by kernel_rfl
theorem m_q78 : Meets Tryz.prog 67 c_q78 := meets_of (E := E_q78) (code := code_q78) mix layD_ok cons_q78 Tryz.func67 (by kernel_rfl) sg_q78 (by kernel_rfl) (fun y => (⟨y.1, y.2.1, y.2.2.1⟩ : Rt)) c_q78.out (fun _ => rfl) c_q78.run (fun x => by kernel_rfl) (by kernel_rfl) (loops_mem loops_q78 (trivial))
noncomputable def sg_q79 : Sig := ⟨[(false, [.d (.int .i64)]), (false, [.d (.int .i64)])], [], false, [(true, [.d (.bool), .own 0, .own 1])], [(0, .arr false .int), (1, .arr false .int)]⟩
noncomputable def c_q79 : Con := ⟨sg_q79, Rt, fun x => M_impl_unit_c1 x.1 x.2.1, fun r => (r.neg, r.mag, r.den, ())⟩
noncomputable def code_q79 : Code := Tryz.f141.body.getD .skip
noncomputable def E_q79 : Env := ⟨layD, [(67, c_q78)], [], []⟩
theorem cons_q79 : ConsOk Tryz.prog E_q79.cons := consOk_cons m_q78 (callable_of Tryz.func67 (by kernel_rfl)) (consOk_nil)
theorem loops_q79 : loopsIn code_q79 = [] := by kernel_rfl
theorem m_q79 : Meets Tryz.prog 141 c_q79 := meets_of (E := E_q79) (code := code_q79) mix layD_ok cons_q79 Tryz.func141 (by kernel_rfl) sg_q79 (by kernel_rfl) (fun y => (⟨y.1, y.2.1, y.2.2.1⟩ : Rt)) c_q79.out (fun _ => rfl) c_q79.run (fun x => by kernel_rfl) (by kernel_rfl) (loops_mem loops_q79 (trivial))
noncomputable def sg_q82 : Sig := ⟨[(false, [.d (.int .i64)]), (false, [.d (.int .i64)]), (false, [.fn 141 []])], [], false, [(true, [.d (.int .i64), .d (.int .i64), .own 0])], [(0, .arr false .rat)]⟩
noncomputable def c_q82 : Con := ⟨sg_q82, Mx, fun x => M_impl_built__impl_unit_c1 x.1 x.2.1, fun r => (r.rows, r.cols, r.cells, ())⟩
noncomputable def code_q82 : Code := Tryz.f76.body.getD .skip
noncomputable def body_q82_0 : Code := (loopsIn code_q82).getD 0 .skip
noncomputable def body_q82_1 : Code := (loopsIn body_q82_0).getD 0 .skip
noncomputable def D_q82_0 : LoopD := ⟨⟨mkSlots [(1, false, [.d (.int .i64)]), (2, false, [.fn 141 []]), (6, false, [.lp 384 0]), (7, false, [.lp 448 0]), (13, false, [.d (.int .i64)]), (14, false, [.d (.int .i64)])] 33 0, [(384, .box [.d (.int .i64), .d (.int .i64), .d (.sl .rat)]), (448, .box [.d (.int .i64), .d (.int .i64), .own 2176]), (2176, .arr false .rat)]⟩, [(.box 448 2, 2176, .rat)], [(.exit 0, ⟨mkSlots [(6, false, [.lp 384 0]), (7, false, [.lp 448 0])] 33 0, [(384, .box [.d (.int .i64), .d (.int .i64), .d (.sl .rat)]), (448, .box [.d (.int .i64), .d (.int .i64), .own 2176]), (2176, .arr false .rat)]⟩, [(.box 448 2, 2176, .rat)])]⟩
noncomputable def D_q82_1 : LoopD := ⟨⟨mkSlots [(1, false, [.d (.int .i64)]), (2, false, [.fn 141 []]), (6, false, [.lp 384 0]), (7, false, [.lp 448 0]), (8, false, [.d (.int .i64)]), (13, false, [.d (.int .i64)]), (14, false, [.d (.int .i64)]), (17, false, [.d (.int .i64)]), (18, false, [.d (.int .i64)])] 33 0, [(384, .box [.d (.int .i64), .d (.int .i64), .d (.sl .rat)]), (448, .box [.d (.int .i64), .d (.int .i64), .own 2176]), (2176, .arr false .rat)]⟩, [(.box 448 2, 2176, .rat)], [(.exit 2, ⟨mkSlots [(1, false, [.d (.int .i64)]), (2, false, [.fn 141 []]), (6, false, [.lp 384 0]), (7, false, [.lp 448 0]), (13, false, [.d (.int .i64)]), (14, false, [.d (.int .i64)])] 33 0, [(384, .box [.d (.int .i64), .d (.int .i64), .d (.sl .rat)]), (448, .box [.d (.int .i64), .d (.int .i64), .own 2176]), (2176, .arr false .rat)]⟩, [(.box 448 2, 2176, .rat)])]⟩
noncomputable def S_q82_0_w (x : Tys D_q82_0.head.ks) : Option (OutT D_q82_0.outs) := @whileO (Int × Int × Int × Int × Int × (List Rt) × Int × Int × (List Rt) × Unit) (Int × Int × (List Rt) × Int × Int × (List Rt) × Unit) S_impl_built__impl_unit_c1_0 x
noncomputable def S_q82_1_w (x : Tys D_q82_1.head.ks) : Option (OutT D_q82_1.outs) := @whileO (Int × Int × Int × Int × Int × Int × Int × Int × (List Rt) × Int × Int × (List Rt) × Unit) (Int × Int × Int × Int × Int × (List Rt) × Int × Int × (List Rt) × Unit) S_impl_built__impl_unit_c1_1 x
noncomputable def E_q82 : Env := ⟨lay, [(141, c_q79)], [(3, mkLM D_q82_0 S_q82_0_w), (6, mkLM D_q82_1 S_q82_1_w)], [(8, [(0, []), (1, []), (2, []), (3, []), (4, []), (5, [2, 3, 4]), (6, [5, 2, 3, 4]), (7, [1, 6, 5, 0, 2, 3, 4]), (8, []), (9, [8, 7, 0, 1, 2, 3, 4, 5, 6])])]⟩
theorem cons_q82 : ConsOk Tryz.prog E_q82.cons := consOk_cons m_q79 (callable_of Tryz.func141 (by kernel_rfl)) (consOk_nil)
theorem S_q82_1_ok (x : Tys D_q82_1.head.ks) : stepL E_q82 D_q82_1 body_q82_1 x = S_impl_built__impl_unit_c1_1 x := by kernel_rfl
theorem loops_q82_1 : loopsIn body_q82_1 = [] := by kernel_rfl
theorem l_q82_1 : LoopOk Tryz.prog (mkLM D_q82_1 S_q82_1_w) body_q82_1 := loop_ok2 mix lay_ok cons_q82 (by kernel_rfl) (loops_mem loops_q82_1 (trivial)) S_q82_1_ok fun _ _ h => h
theorem S_q82_0_ok (x : Tys D_q82_0.head.ks) : stepL E_q82 D_q82_0 body_q82_0 x = S_impl_built__impl_unit_c1_0 x := by kernel_rfl
theorem loops_q82_0 : loopsIn body_q82_0 = [body_q82_1] := by kernel_rfl
theorem l_q82_0 : LoopOk Tryz.prog (mkLM D_q82_0 S_q82_0_w) body_q82_0 := loop_ok2 mix lay_ok cons_q82 (by kernel_rfl) (loops_mem loops_q82_0 (⟨⟨_, by kernel_rfl, l_q82_1⟩, trivial⟩)) S_q82_0_ok fun _ _ h => h
theorem loops_q82 : loopsIn code_q82 = [body_q82_0] := by kernel_rfl
theorem m_q82 : Meets Tryz.prog 76 c_q82 := meets_of (E := E_q82) (code := code_q82) mix lay_ok cons_q82 Tryz.func76 (by kernel_rfl) sg_q82 (by kernel_rfl) (fun y => (⟨y.1, y.2.1, y.2.2.1⟩ : Mx)) c_q82.out (fun _ => rfl) c_q82.run (fun x => by kernel_rfl) (by kernel_rfl) (loops_mem loops_q82 (⟨⟨_, by kernel_rfl, l_q82_0⟩, trivial⟩))
noncomputable def sg_q83 : Sig := ⟨[(false, [.d (.int .i64)])], [], false, [(true, [.d (.int .i64), .d (.int .i64), .own 0])], [(0, .arr false .rat)]⟩
noncomputable def c_q83 : Con := ⟨sg_q83, Mx, fun x => M_impl_unit x.1, fun r => (r.rows, r.cols, r.cells, ())⟩
noncomputable def code_q83 : Code := Tryz.f83.body.getD .skip
noncomputable def E_q83 : Env := ⟨lay, [(76, c_q82)], [], []⟩
theorem cons_q83 : ConsOk Tryz.prog E_q83.cons := consOk_cons m_q82 (callable_of Tryz.func76 (by kernel_rfl)) (consOk_nil)
theorem loops_q83 : loopsIn code_q83 = [] := by kernel_rfl
theorem m_q83 : Meets Tryz.prog 83 c_q83 := meets_of (E := E_q83) (code := code_q83) mix lay_ok cons_q83 Tryz.func83 (by kernel_rfl) sg_q83 (by kernel_rfl) (fun y => (⟨y.1, y.2.1, y.2.2.1⟩ : Mx)) c_q83.out (fun _ => rfl) c_q83.run (fun x => by kernel_rfl) (by kernel_rfl) (loops_mem loops_q83 (trivial))
noncomputable def sg_q86 : Sig := ⟨[(true, [.d (.int .i64), .d (.int .i64), .own 191]), (false, [.d (.int .i64)]), (false, [.d (.int .i64)])], [(191, .arr false .rat)], false, [(true, [.d (.bool), .d (.sl .int), .d (.sl .int)])], [(191, .arr false .rat)]⟩
noncomputable def c_q86 : Con := ⟨sg_q86, Rt × List Rt, fun x => M_impl_Matrix_at_mdd (⟨x.1, x.2.1, x.2.2.2.2.1⟩ : Mx) x.2.2.1 x.2.2.2.1, fun r => (r.1.neg, r.1.mag, r.1.den, r.2, ())⟩
noncomputable def code_q86 : Code := Tryz.f72.body.getD .skip
noncomputable def E_q86 : Env := ⟨layD, [], [], []⟩
theorem cons_q86 : ConsOk Tryz.prog E_q86.cons := consOk_nil
theorem loops_q86 : loopsIn code_q86 = [] := by kernel_rfl
theorem m_q86 : Meets Tryz.prog 72 c_q86 := meets_of (E := E_q86) (code := code_q86) mix layD_ok cons_q86 Tryz.func72 (by kernel_rfl) sg_q86 (by kernel_rfl) (fun y => ((⟨y.1, y.2.1, y.2.2.1⟩ : Rt), y.2.2.2.1)) c_q86.out (fun _ => rfl) c_q86.run (fun x => by kernel_rfl) (by kernel_rfl) (loops_mem loops_q86 (trivial))
noncomputable def sg_q84 : Sig := ⟨[(true, [.d (.bool), .d (.sl .int), .d (.sl .int)])], [], false, [(false, [.d (.bool)])], []⟩
noncomputable def c_q84 : Con := ⟨sg_q84, Bool, fun x => M_impl_void (⟨x.1, x.2.1, x.2.2.1⟩ : Rt), fun r => (r, ())⟩
noncomputable def code_q84 : Code := Tryz.f86.body.getD .skip
noncomputable def E_q84 : Env := ⟨layD, [], [], []⟩
theorem cons_q84 : ConsOk Tryz.prog E_q84.cons := consOk_nil
theorem loops_q84 : loopsIn code_q84 = [] := by kernel_rfl
theorem m_q84 : Meets Tryz.prog 86 c_q84 := meets_of (E := E_q84) (code := code_q84) mix layD_ok cons_q84 Tryz.func86 (by kernel_rfl) sg_q84 (by kernel_rfl) (fun y => y.1) c_q84.out (fun _ => rfl) c_q84.run (fun x => by kernel_rfl) (by kernel_rfl) (loops_mem loops_q84 (trivial))
noncomputable def sg_q87 : Sig := ⟨[(true, [.d (.bool), .d (.sl .int)]), (true, [.d (.bool), .d (.sl .int)])], [], false, [(true, [.d (.bool), .own 0])], [(0, .arr false .int)]⟩
noncomputable def c_q87 : Con := ⟨sg_q87, Bg, fun x => M_impl_bigMul (⟨x.1, x.2.1⟩ : Bg) (⟨x.2.2.1, x.2.2.2.1⟩ : Bg), fun r => (r.neg, r.mag, ())⟩
noncomputable def code_q87 : Code := Tryz.f126.body.getD .skip
noncomputable def E_q87 : Env := ⟨layD, [(127, c_q54), (170, c_q70)], [], [(1, [(0, []), (1, []), (2, []), (3, []), (4, []), (5, []), (6, []), (7, []), (8, []), (9, [6, 8, 5, 7]), (10, [4, 9, 1, 3, 6, 8, 0, 2, 5, 7]), (11, [10, 0, 1, 2, 3, 4, 5, 6, 7, 8, 9])])]⟩
theorem cons_q87 : ConsOk Tryz.prog E_q87.cons := consOk_cons m_q54 (callable_of Tryz.func127 (by kernel_rfl)) (consOk_cons m_q70 (callable_of Tryz.func170 (by kernel_rfl)) (consOk_nil))
theorem loops_q87 : loopsIn code_q87 = [] := by kernel_rfl
theorem m_q87 : Meets Tryz.prog 126 c_q87 := meets_of (E := E_q87) (code := code_q87) mix layD_ok cons_q87 Tryz.func126 (by kernel_rfl) sg_q87 (by kernel_rfl) (fun y => (⟨y.1, y.2.1⟩ : Bg)) c_q87.out (fun _ => rfl) c_q87.run (fun x => by kernel_rfl) (by kernel_rfl) (loops_mem loops_q87 (trivial))
noncomputable def sg_q88 : Sig := ⟨[(true, [.d (.bool), .own 1]), (false, [.own 64])], [(1, .arr false .int), (64, .arr false .int)], false, [(true, [.d (.bool), .own 0, .own 1])], [(0, .arr false .int), (1, .arr false .int)]⟩
noncomputable def c_q88 : Con := ⟨sg_q88, Rt, fun x => M_impl_lowest_cc (⟨x.1, x.2.1⟩ : Bg) x.2.2.1, fun r => (r.neg, r.mag, r.den, ())⟩
noncomputable def code_q88 : Code := Tryz.f125.body.getD .skip
noncomputable def E_q88 : Env := ⟨layD, [(132, c_q56), (131, c_q57), (169, c_q55), (170, c_q70)], [], []⟩
theorem cons_q88 : ConsOk Tryz.prog E_q88.cons := consOk_cons m_q56 (callable_of Tryz.func132 (by kernel_rfl)) (consOk_cons m_q57 (callable_of Tryz.func131 (by kernel_rfl)) (consOk_cons m_q55 (callable_of Tryz.func169 (by kernel_rfl)) (consOk_cons m_q70 (callable_of Tryz.func170 (by kernel_rfl)) (consOk_nil))))
theorem loops_q88 : loopsIn code_q88 = [] := by kernel_rfl
theorem m_q88 : Meets Tryz.prog 125 c_q88 := meets_of (E := E_q88) (code := code_q88) mix layD_ok cons_q88 Tryz.func125 (by kernel_rfl) sg_q88 (by kernel_rfl) (fun y => (⟨y.1, y.2.1, y.2.2.1⟩ : Rt)) c_q88.out (fun _ => rfl) c_q88.run (fun x => by kernel_rfl) (by kernel_rfl) (loops_mem loops_q88 (trivial))
noncomputable def sg_q89 : Sig := ⟨[(true, [.d (.bool), .d (.sl .int), .d (.sl .int)]), (true, [.d (.bool), .d (.sl .int), .d (.sl .int)])], [], false, [(true, [.d (.bool), .own 0, .own 1])], [(0, .arr false .int), (1, .arr false .int)]⟩
noncomputable def c_q89 : Con := ⟨sg_q89, Rt, fun x => M_impl_mul (⟨x.1, x.2.1, x.2.2.1⟩ : Rt) (⟨x.2.2.2.1, x.2.2.2.2.1, x.2.2.2.2.2.1⟩ : Rt), fun r => (r.neg, r.mag, r.den, ())⟩
noncomputable def code_q89 : Code := Tryz.f68.body.getD .skip
noncomputable def E_q89 : Env := ⟨layD, [(86, c_q84), (126, c_q87), (127, c_q54), (125, c_q88)], [], [(3, [(0, []), (1, []), (2, []), (3, []), (5, []), (6, []), (7, []), (8, []), (4, [1, 3, 0, 2]), (9, [6, 8, 4, 5, 7, 1, 3, 0, 2]), (10, [4, 9, 1, 3, 6, 8, 0, 2, 5, 7]), (11, [10, 0, 1, 2, 3, 4, 5, 6, 7, 8, 9])])]⟩
theorem cons_q89 : ConsOk Tryz.prog E_q89.cons := consOk_cons m_q84 (callable_of Tryz.func86 (by kernel_rfl)) (consOk_cons m_q87 (callable_of Tryz.func126 (by kernel_rfl)) (consOk_cons m_q54 (callable_of Tryz.func127 (by kernel_rfl)) (consOk_cons m_q88 (callable_of Tryz.func125 (by kernel_rfl)) (consOk_nil))))
theorem loops_q89 : loopsIn code_q89 = [] := by kernel_rfl
theorem m_q89 : Meets Tryz.prog 68 c_q89 := meets_of (E := E_q89) (code := code_q89) mix layD_ok cons_q89 Tryz.func68 (by kernel_rfl) sg_q89 (by kernel_rfl) (fun y => (⟨y.1, y.2.1, y.2.2.1⟩ : Rt)) c_q89.out (fun _ => rfl) c_q89.run (fun x => by kernel_rfl) (by kernel_rfl) (loops_mem loops_q89 (trivial))
noncomputable def sg_q90 : Sig := ⟨[(true, [.d (.bool), .d (.sl .int)])], [], false, [(true, [.d (.bool), .own 0])], [(0, .arr false .int)]⟩
noncomputable def c_q90 : Con := ⟨sg_q90, Bg, fun x => M_impl_bigNeg (⟨x.1, x.2.1⟩ : Bg), fun r => (r.neg, r.mag, ())⟩
noncomputable def code_q90 : Code := Tryz.f166.body.getD .skip
noncomputable def E_q90 : Env := ⟨layD, [(142, c_q50), (170, c_q70)], [], [(1, [(0, []), (1, []), (2, []), (3, []), (4, []), (5, [4, 3]), (6, [2, 5, 1, 4, 0, 3]), (7, [6, 0, 1, 2, 3, 4, 5])])]⟩
theorem cons_q90 : ConsOk Tryz.prog E_q90.cons := consOk_cons m_q50 (callable_of Tryz.func142 (by kernel_rfl)) (consOk_cons m_q70 (callable_of Tryz.func170 (by kernel_rfl)) (consOk_nil))
theorem loops_q90 : loopsIn code_q90 = [] := by kernel_rfl
theorem m_q90 : Meets Tryz.prog 166 c_q90 := meets_of (E := E_q90) (code := code_q90) mix layD_ok cons_q90 Tryz.func166 (by kernel_rfl) sg_q90 (by kernel_rfl) (fun y => (⟨y.1, y.2.1⟩ : Bg)) c_q90.out (fun _ => rfl) c_q90.run (fun x => by kernel_rfl) (by kernel_rfl) (loops_mem loops_q90 (trivial))
noncomputable def sg_q91 : Sig := ⟨[(true, [.d (.bool), .d (.sl .int), .d (.sl .int)])], [], false, [(true, [.d (.bool), .own 0, .own 1])], [(0, .arr false .int), (1, .arr false .int)]⟩
noncomputable def c_q91 : Con := ⟨sg_q91, Rt, fun x => M_impl_neg (⟨x.1, x.2.1, x.2.2.1⟩ : Rt), fun r => (r.neg, r.mag, r.den, ())⟩
noncomputable def code_q91 : Code := Tryz.f115.body.getD .skip
noncomputable def E_q91 : Env := ⟨layD, [(86, c_q84), (166, c_q90), (142, c_q50)], [], [(3, [(0, []), (1, []), (3, []), (4, []), (2, [1, 0]), (5, [4, 2, 3, 1, 0]), (6, []), (7, [6, 5, 0, 1, 2, 3, 4])])]⟩
theorem cons_q91 : ConsOk Tryz.prog E_q91.cons := consOk_cons m_q84 (callable_of Tryz.func86 (by kernel_rfl)) (consOk_cons m_q90 (callable_of Tryz.func166 (by kernel_rfl)) (consOk_cons m_q50 (callable_of Tryz.func142 (by kernel_rfl)) (consOk_nil)))
theorem loops_q91 : loopsIn code_q91 = [] := by kernel_rfl
theorem m_q91 : Meets Tryz.prog 115 c_q91 := meets_of (E := E_q91) (code := code_q91) mix layD_ok cons_q91 Tryz.func115 (by kernel_rfl) sg_q91 (by kernel_rfl) (fun y => (⟨y.1, y.2.1, y.2.2.1⟩ : Rt)) c_q91.out (fun _ => rfl) c_q91.run (fun x => by kernel_rfl) (by kernel_rfl) (loops_mem loops_q91 (trivial))
noncomputable def sg_q92 : Sig := ⟨[(false, [.d (.sl .int)]), (false, [.d (.sl .int)])], [], false, [(false, [.own 0])], [(0, .arr false .int)]⟩
noncomputable def c_q92 : Con := ⟨sg_q92, List Int, fun x => M_impl_natSub x.1 x.2.1, fun r => (r, ())⟩
noncomputable def code_q92 : Code := Tryz.f194.body.getD .skip
noncomputable def body_q92_0 : Code := (loopsIn code_q92).getD 0 .skip
noncomputable def D_q92_0 : LoopD := ⟨⟨mkSlots [(1, false, [.d (.sl .int)]), (5, false, [.own 2816]), (6, false, [.d (.int .i64)]), (12, false, [.d (.int .i64)]), (13, false, [.d (.int .i64)])] 43 0, [(2816, .arr false .int)]⟩, [], [(.exit 0, ⟨mkSlots [(5, false, [.own 2816])] 43 0, [(2816, .arr false .int)]⟩, [])]⟩
noncomputable def S_q92_0_w (x : Tys D_q92_0.head.ks) : Option (OutT D_q92_0.outs) := @whileO ((List Int) × Int × Int × Int × (List Int) × Unit) ((List Int) × Unit) S_impl_natSub_0 x
noncomputable def E_q92 : Env := ⟨layD, [(142, c_q50), (171, c_q51)], [(4, mkLM D_q92_0 S_q92_0_w)], []⟩
theorem cons_q92 : ConsOk Tryz.prog E_q92.cons := consOk_cons m_q50 (callable_of Tryz.func142 (by kernel_rfl)) (consOk_cons m_q51 (callable_of Tryz.func171 (by kernel_rfl)) (consOk_nil))
theorem S_q92_0_ok (x : Tys D_q92_0.head.ks) : stepL E_q92 D_q92_0 body_q92_0 x = S_impl_natSub_0 x := by kernel_rfl
theorem loops_q92_0 : loopsIn body_q92_0 = [] := by kernel_rfl
theorem l_q92_0 : LoopOk Tryz.prog (mkLM D_q92_0 S_q92_0_w) body_q92_0 := loop_ok2 mix layD_ok cons_q92 (by kernel_rfl) (loops_mem loops_q92_0 (trivial)) S_q92_0_ok fun _ _ h => h
theorem loops_q92 : loopsIn code_q92 = [body_q92_0] := by kernel_rfl
theorem m_q92 : Meets Tryz.prog 194 c_q92 := meets_of (E := E_q92) (code := code_q92) mix layD_ok cons_q92 Tryz.func194 (by kernel_rfl) sg_q92 (by kernel_rfl) (fun y => y.1) c_q92.out (fun _ => rfl) c_q92.run (fun x => by kernel_rfl) (by kernel_rfl) (loops_mem loops_q92 (⟨⟨_, by kernel_rfl, l_q92_0⟩, trivial⟩))
noncomputable def sg_q93 : Sig := ⟨[(true, [.d (.bool), .d (.sl .int)]), (true, [.d (.bool), .d (.sl .int)])], [], false, [(true, [.d (.bool), .own 0])], [(0, .arr false .int)]⟩
noncomputable def c_q93 : Con := ⟨sg_q93, Bg, fun x => M_impl_bigAdd (⟨x.1, x.2.1⟩ : Bg) (⟨x.2.2.1, x.2.2.2.1⟩ : Bg), fun r => (r.neg, r.mag, ())⟩
noncomputable def code_q93 : Code := Tryz.f176.body.getD .skip
noncomputable def E_q93 : Env := ⟨layD, [(193, c_q71), (170, c_q70), (188, c_q49), (194, c_q92)], [], [(2, [(0, []), (1, []), (2, []), (3, []), (4, []), (5, []), (6, [3, 5, 2, 4]), (7, [1, 6, 0, 3, 5, 2, 4]), (8, [7, 0, 1, 2, 3, 4, 5, 6])]), (4, [(0, []), (1, []), (2, []), (3, []), (4, []), (5, []), (6, [3, 5, 2, 4]), (7, [1, 6, 0, 3, 5, 2, 4]), (8, [7, 0, 1, 2, 3, 4, 5, 6])]), (5, [(0, []), (1, []), (2, []), (3, []), (4, []), (5, []), (6, [3, 5, 2, 4]), (7, [1, 6, 0, 3, 5, 2, 4]), (8, [7, 0, 1, 2, 3, 4, 5, 6])])]⟩
theorem cons_q93 : ConsOk Tryz.prog E_q93.cons := consOk_cons m_q71 (callable_of Tryz.func193 (by kernel_rfl)) (consOk_cons m_q70 (callable_of Tryz.func170 (by kernel_rfl)) (consOk_cons m_q49 (callable_of Tryz.func188 (by kernel_rfl)) (consOk_cons m_q92 (callable_of Tryz.func194 (by kernel_rfl)) (consOk_nil))))
theorem loops_q93 : loopsIn code_q93 = [] := by kernel_rfl
theorem m_q93 : Meets Tryz.prog 176 c_q93 := meets_of (E := E_q93) (code := code_q93) mix layD_ok cons_q93 Tryz.func176 (by kernel_rfl) sg_q93 (by kernel_rfl) (fun y => (⟨y.1, y.2.1⟩ : Bg)) c_q93.out (fun _ => rfl) c_q93.run (fun x => by kernel_rfl) (by kernel_rfl) (loops_mem loops_q93 (trivial))
noncomputable def sg_q94 : Sig := ⟨[(true, [.d (.bool), .d (.sl .int), .d (.sl .int)]), (true, [.d (.bool), .d (.sl .int), .d (.sl .int)])], [], false, [(true, [.d (.bool), .own 0, .own 1])], [(0, .arr false .int), (1, .arr false .int)]⟩
noncomputable def c_q94 : Con := ⟨sg_q94, Rt, fun x => M_impl_add (⟨x.1, x.2.1, x.2.2.1⟩ : Rt) (⟨x.2.2.2.1, x.2.2.2.2.1, x.2.2.2.2.2.1⟩ : Rt), fun r => (r.neg, r.mag, r.den, ())⟩
noncomputable def code_q94 : Code := Tryz.f143.body.getD .skip
noncomputable def E_q94 : Env := ⟨layD, [(86, c_q84), (135, c_q65), (176, c_q93), (142, c_q50), (125, c_q88), (126, c_q87), (127, c_q54)], [], [(4, [(0, []), (1, []), (2, []), (3, []), (5, []), (6, []), (4, [1, 3, 0, 2]), (7, [6, 4, 5, 1, 3, 0, 2]), (8, [4, 7, 1, 3, 6, 0, 2, 5]), (9, [8, 0, 1, 2, 3, 4, 5, 6, 7])]), (7, [(0, []), (1, []), (3, []), (4, []), (5, []), (6, []), (2, [0, 1]), (7, [4, 6, 2, 3, 5, 0, 1]), (8, [2, 7, 0, 1, 4, 6, 3, 5]), (9, [8, 0, 1, 2, 3, 4, 5, 6, 7])])]⟩
theorem cons_q94 : ConsOk Tryz.prog E_q94.cons := consOk_cons m_q84 (callable_of Tryz.func86 (by kernel_rfl)) (consOk_cons m_q65 (callable_of Tryz.func135 (by kernel_rfl)) (consOk_cons m_q93 (callable_of Tryz.func176 (by kernel_rfl)) (consOk_cons m_q50 (callable_of Tryz.func142 (by kernel_rfl)) (consOk_cons m_q88 (callable_of Tryz.func125 (by kernel_rfl)) (consOk_cons m_q87 (callable_of Tryz.func126 (by kernel_rfl)) (consOk_cons m_q54 (callable_of Tryz.func127 (by kernel_rfl)) (consOk_nil)))))))
theorem loops_q94 : loopsIn code_q94 = [] := by kernel_rfl
theorem m_q94 : Meets Tryz.prog 143 c_q94 := meets_of (E := E_q94) (code := code_q94) mix layD_ok cons_q94 Tryz.func143 (by kernel_rfl) sg_q94 (by kernel_rfl) (fun y => (⟨y.1, y.2.1, y.2.2.1⟩ : Rt)) c_q94.out (fun _ => rfl) c_q94.run (fun x => by kernel_rfl) (by kernel_rfl) (loops_mem loops_q94 (trivial))
noncomputable def sg_q95 : Sig := ⟨[(true, [.d (.bool), .d (.sl .int), .d (.sl .int)]), (true, [.d (.bool), .d (.sl .int), .d (.sl .int)])], [], false, [(true, [.d (.bool), .own 0, .own 1])], [(0, .arr false .int), (1, .arr false .int)]⟩
noncomputable def c_q95 : Con := ⟨sg_q95, Rt, fun x => M_impl_sub (⟨x.1, x.2.1, x.2.2.1⟩ : Rt) (⟨x.2.2.2.1, x.2.2.2.2.1, x.2.2.2.2.2.1⟩ : Rt), fun r => (r.neg, r.mag, r.den, ())⟩
noncomputable def code_q95 : Code := Tryz.f85.body.getD .skip
noncomputable def E_q95 : Env := ⟨layD, [(115, c_q91), (143, c_q94)], [], [(1, [(0, []), (1, []), (2, [1]), (3, [0, 2, 1]), (4, [3, 0, 1, 2])])]⟩
theorem cons_q95 : ConsOk Tryz.prog E_q95.cons := consOk_cons m_q91 (callable_of Tryz.func115 (by kernel_rfl)) (consOk_cons m_q94 (callable_of Tryz.func143 (by kernel_rfl)) (consOk_nil))
theorem loops_q95 : loopsIn code_q95 = [] := by kernel_rfl
theorem m_q95 : Meets Tryz.prog 85 c_q95 := meets_of (E := E_q95) (code := code_q95) mix layD_ok cons_q95 Tryz.func85 (by kernel_rfl) sg_q95 (by kernel_rfl) (fun y => (⟨y.1, y.2.1, y.2.2.1⟩ : Rt)) c_q95.out (fun _ => rfl) c_q95.run (fun x => by kernel_rfl) (by kernel_rfl) (loops_mem loops_q95 (trivial))
noncomputable def sg_q85 : Sig := ⟨[(true, [.d (.bool), .d (.sl .int), .d (.sl .int)])], [], false, [(false, [.d (.int .i64)])], []⟩
noncomputable def c_q85 : Con := ⟨sg_q85, Int, fun x => M_impl_sign (⟨x.1, x.2.1, x.2.2.1⟩ : Rt), fun r => (r, ())⟩
noncomputable def code_q85 : Code := Tryz.f74.body.getD .skip
noncomputable def E_q85 : Env := ⟨layD, [], [], []⟩
theorem cons_q85 : ConsOk Tryz.prog E_q85.cons := consOk_nil
theorem loops_q85 : loopsIn code_q85 = [] := by kernel_rfl
theorem m_q85 : Meets Tryz.prog 74 c_q85 := meets_of (E := E_q85) (code := code_q85) mix layD_ok cons_q85 Tryz.func74 (by kernel_rfl) sg_q85 (by kernel_rfl) (fun y => y.1) c_q85.out (fun _ => rfl) c_q85.run (fun x => by kernel_rfl) (by kernel_rfl) (loops_mem loops_q85 (trivial))
noncomputable def sg_q96 : Sig := ⟨[(true, [.d (.bool), .d (.sl .int), .d (.sl .int)]), (true, [.d (.bool), .d (.sl .int), .d (.sl .int)])], [], false, [(true, [.d (.bool), .own 0, .own 1])], [(0, .arr false .int), (1, .arr false .int)]⟩
noncomputable def c_q96 : Con := ⟨sg_q96, Rt, fun x => M_impl_div (⟨x.1, x.2.1, x.2.2.1⟩ : Rt) (⟨x.2.2.2.1, x.2.2.2.2.1, x.2.2.2.2.2.1⟩ : Rt), fun r => (r.neg, r.mag, r.den, ())⟩
noncomputable def code_q96 : Code := Tryz.f87.body.getD .skip
noncomputable def E_q96 : Env := ⟨layD, [(86, c_q84), (68, c_q89)], [], []⟩
theorem cons_q96 : ConsOk Tryz.prog E_q96.cons := consOk_cons m_q84 (callable_of Tryz.func86 (by kernel_rfl)) (consOk_cons m_q89 (callable_of Tryz.func68 (by kernel_rfl)) (consOk_nil))
theorem loops_q96 : loopsIn code_q96 = [] := by kernel_rfl
theorem m_q96 : Meets Tryz.prog 87 c_q96 := meets_of (E := E_q96) (code := code_q96) mix layD_ok cons_q96 Tryz.func87 (by kernel_rfl) sg_q96 (by kernel_rfl) (fun y => (⟨y.1, y.2.1, y.2.2.1⟩ : Rt)) c_q96.out (fun _ => rfl) c_q96.run (fun x => by kernel_rfl) (by kernel_rfl) (loops_mem loops_q96 (trivial))
noncomputable def sg_q97 : Sig := ⟨[(true, [.d (.int .i64), .d (.int .i64), .own 191])], [(191, .arr false .rat)], true, [(true, [.d (.int .i64), .d (.int .i64), .d (.sl .rat)]), (false, [.d (.sl .rat)]), (false, [.d (.bool)])], [(191, .arr false .rat)]⟩
noncomputable def c_q97 : Con := ⟨sg_q97, Mx × List Rt × Bool × List Rt, fun x => M_impl_Factor_m (⟨x.1, x.2.1, x.2.2.1⟩ : Mx), fun r => (r.1.rows, r.1.cols, r.1.cells, r.2.1, r.2.2.1, r.2.2.2, ())⟩
noncomputable def code_q97 : Code := Tryz.f26.body.getD .skip
noncomputable def body_q97_0 : Code := (loopsIn code_q97).getD 0 .skip
noncomputable def body_q97_1 : Code := (loopsIn body_q97_0).getD 0 .skip
noncomputable def body_q97_2 : Code := (loopsIn body_q97_0).getD 1 .skip
noncomputable def body_q97_3 : Code := (loopsIn body_q97_2).getD 0 .skip
noncomputable def D_q97_0 : LoopD := ⟨⟨mkSlots [(1, false, [.lp 64 0]), (2, false, [.lp 128 0]), (5, false, [.d (.int .i64)]), (6, false, [.lp 384 0]), (7, false, [.own 7488]), (22, false, [.d (.int .i64)]), (23, false, [.d (.int .i64)])] 115 0, [(64, .box [.d (.int .i64), .d (.int .i64), .own 191]), (128, .box [.d (.int .i64), .d (.int .i64), .d (.sl .rat)]), (191, .arr false .rat), (384, .box [.d (.int .i64), .d (.int .i64), .own 7424]), (7424, .arr false .rat), (7488, .arr false .rat)]⟩, [(.slot 7 0, 7488, .rat)], [(.ret, ⟨mkSlots [(2, false, [.lp 128 0]), (3, false, [.d (.sl .rat)]), (4, false, [.d (.bool)])] 115 0, [(128, .box [.d (.int .i64), .d (.int .i64), .d (.sl .rat)]), (191, .arr false .rat)]⟩, []), (.exit 0, ⟨mkSlots [(2, false, [.lp 128 0]), (6, false, [.lp 384 0]), (7, false, [.own 7488])] 115 0, [(128, .box [.d (.int .i64), .d (.int .i64), .d (.sl .rat)]), (191, .arr false .rat), (384, .box [.d (.int .i64), .d (.int .i64), .own 7424]), (7424, .arr false .rat), (7488, .arr false .rat)]⟩, [(.slot 7 0, 7488, .rat)])]⟩
noncomputable def D_q97_1 : LoopD := ⟨⟨mkSlots [(1, false, [.lp 64 0]), (2, false, [.lp 128 0]), (5, false, [.d (.int .i64)]), (6, false, [.lp 384 0]), (7, false, [.own 7616]), (8, false, [.d (.int .i64)]), (9, false, [.lp 576 0]), (22, false, [.d (.int .i64)]), (23, false, [.d (.int .i64)]), (31, false, [.d (.int .i64)]), (32, false, [.d (.int .i64)])] 115 0, [(64, .box [.d (.int .i64), .d (.int .i64), .own 191]), (128, .box [.d (.int .i64), .d (.int .i64), .d (.sl .rat)]), (191, .arr false .rat), (384, .box [.d (.int .i64), .d (.int .i64), .own 7424]), (576, .box [.d (.bool), .own 7488, .own 7552]), (7424, .arr false .rat), (7488, .arr false .int), (7552, .arr false .int), (7616, .arr false .rat)]⟩, [(.slot 7 0, 7616, .rat)], [(.exit 2, ⟨mkSlots [(1, false, [.lp 64 0]), (2, false, [.lp 128 0]), (5, false, [.d (.int .i64)]), (6, false, [.lp 384 0]), (7, false, [.own 7616]), (8, false, [.d (.int .i64)]), (9, false, [.lp 576 0]), (22, false, [.d (.int .i64)]), (23, false, [.d (.int .i64)])] 115 0, [(64, .box [.d (.int .i64), .d (.int .i64), .own 191]), (128, .box [.d (.int .i64), .d (.int .i64), .d (.sl .rat)]), (191, .arr false .rat), (384, .box [.d (.int .i64), .d (.int .i64), .own 7424]), (576, .box [.d (.bool), .own 7488, .own 7552]), (7424, .arr false .rat), (7488, .arr false .int), (7552, .arr false .int), (7616, .arr false .rat)]⟩, [(.slot 7 0, 7616, .rat)])]⟩
noncomputable def D_q97_2 : LoopD := ⟨⟨mkSlots [(1, false, [.lp 64 0]), (2, false, [.lp 128 0]), (5, false, [.d (.int .i64)]), (6, false, [.lp 384 0]), (7, false, [.own 7424]), (8, false, [.d (.int .i64)]), (9, false, [.lp 576 0]), (11, false, [.d (.int .i64)]), (22, false, [.d (.int .i64)]), (23, false, [.d (.int .i64)])] 115 0, [(64, .box [.d (.int .i64), .d (.int .i64), .own 191]), (128, .box [.d (.int .i64), .d (.int .i64), .d (.sl .rat)]), (191, .arr false .rat), (384, .box [.d (.int .i64), .d (.int .i64), .own 7488]), (576, .box [.d (.bool), .d (.sl .int), .d (.sl .int)]), (7424, .arr false .rat), (7488, .arr false .rat)]⟩, [], [(.ret, ⟨mkSlots [(2, false, [.lp 128 0]), (3, false, [.d (.sl .rat)]), (4, false, [.d (.bool)])] 115 0, [(128, .box [.d (.int .i64), .d (.int .i64), .d (.sl .rat)]), (191, .arr false .rat)]⟩, []), (.exit 4, ⟨mkSlots [(1, false, [.lp 64 0]), (2, false, [.lp 128 0]), (5, false, [.d (.int .i64)]), (6, false, [.lp 384 0]), (7, false, [.own 7424]), (22, false, [.d (.int .i64)]), (23, false, [.d (.int .i64)])] 115 0, [(64, .box [.d (.int .i64), .d (.int .i64), .own 191]), (128, .box [.d (.int .i64), .d (.int .i64), .d (.sl .rat)]), (191, .arr false .rat), (384, .box [.d (.int .i64), .d (.int .i64), .own 7488]), (7424, .arr false .rat), (7488, .arr false .rat)]⟩, [])]⟩
noncomputable def D_q97_3 : LoopD := ⟨⟨mkSlots [(1, false, [.lp 64 0]), (2, false, [.lp 128 0]), (5, false, [.d (.int .i64)]), (6, false, [.lp 384 0]), (7, false, [.own 7424]), (8, false, [.d (.int .i64)]), (9, false, [.lp 576 0]), (11, false, [.d (.int .i64)]), (12, false, [.lp 768 0]), (22, false, [.d (.int .i64)]), (23, false, [.d (.int .i64)]), (76, false, [.d (.int .i64)]), (77, false, [.d (.int .i64)])] 115 0, [(64, .box [.d (.int .i64), .d (.int .i64), .own 191]), (128, .box [.d (.int .i64), .d (.int .i64), .d (.sl .rat)]), (191, .arr false .rat), (384, .box [.d (.int .i64), .d (.int .i64), .own 7488]), (576, .box [.d (.bool), .d (.sl .int), .d (.sl .int)]), (768, .box [.d (.bool), .own 7552, .own 7616]), (7424, .arr false .rat), (7488, .arr false .rat), (7552, .arr false .int), (7616, .arr false .int)]⟩, [], [(.exit 6, ⟨mkSlots [(1, false, [.lp 64 0]), (2, false, [.lp 128 0]), (5, false, [.d (.int .i64)]), (6, false, [.lp 384 0]), (7, false, [.own 7424]), (8, false, [.d (.int .i64)]), (9, false, [.lp 576 0]), (11, false, [.d (.int .i64)]), (12, false, [.lp 768 0]), (22, false, [.d (.int .i64)]), (23, false, [.d (.int .i64)])] 115 0, [(64, .box [.d (.int .i64), .d (.int .i64), .own 191]), (128, .box [.d (.int .i64), .d (.int .i64), .d (.sl .rat)]), (191, .arr false .rat), (384, .box [.d (.int .i64), .d (.int .i64), .own 7488]), (576, .box [.d (.bool), .d (.sl .int), .d (.sl .int)]), (768, .box [.d (.bool), .own 7552, .own 7616]), (7424, .arr false .rat), (7488, .arr false .rat), (7552, .arr false .int), (7616, .arr false .int)]⟩, [])]⟩
noncomputable def S_q97_0_w (x : Tys D_q97_0.head.ks) : Option (OutT D_q97_0.outs) := @whileO (Int × Int × Int × Int × Int × Int × Int × (List Rt) × (List Rt) × Int × Int × (List Rt) × (List Rt) × Unit) (((List Rt) × Bool × Int × Int × (List Rt) × (List Rt) × Unit) ⊕ (Int × Int × (List Rt) × (List Rt) × Int × Int × (List Rt) × (List Rt) × Unit)) S_impl_Factor_m_0 x
noncomputable def S_q97_1_w (x : Tys D_q97_1.head.ks) : Option (OutT D_q97_1.outs) := @whileO (Int × Int × Int × Int × Int × Int × Int × Int × Int × Int × (List Rt) × (List Rt) × Int × Int × Bool × (List Rt) × (List Int) × (List Int) × (List Rt) × Unit) (Int × Int × Int × Int × Int × Int × Int × Int × (List Rt) × (List Rt) × Int × Int × Bool × (List Rt) × (List Int) × (List Int) × (List Rt) × Unit) S_impl_Factor_m_1 x
noncomputable def S_q97_2_w (x : Tys D_q97_2.head.ks) : Option (OutT D_q97_2.outs) := @whileO (Int × Int × Int × Int × Int × Int × Int × Int × Int × (List Rt) × (List Rt) × Int × Int × Bool × (List Int) × (List Int) × (List Rt) × (List Rt) × Unit) (((List Rt) × Bool × Int × Int × (List Rt) × (List Rt) × Unit) ⊕ (Int × Int × Int × Int × Int × Int × Int × (List Rt) × (List Rt) × Int × Int × (List Rt) × (List Rt) × Unit)) S_impl_Factor_m_2 x
noncomputable def S_q97_3_w (x : Tys D_q97_3.head.ks) : Option (OutT D_q97_3.outs) := @whileO (Int × Int × Int × Int × Int × Int × Int × Int × Int × Int × Int × (List Rt) × (List Rt) × Int × Int × Bool × (List Int) × (List Int) × Bool × (List Rt) × (List Rt) × (List Int) × (List Int) × Unit) (Int × Int × Int × Int × Int × Int × Int × Int × Int × (List Rt) × (List Rt) × Int × Int × Bool × (List Int) × (List Int) × Bool × (List Rt) × (List Rt) × (List Int) × (List Int) × Unit) S_impl_Factor_m_3 x
noncomputable def E_q97 : Env := ⟨lay, [(28, c_q69), (83, c_q83), (72, c_q86), (84, c_q61), (68, c_q89), (85, c_q95), (86, c_q84), (74, c_q85), (87, c_q96)], [(7, mkLM D_q97_0 S_q97_0_w), (11, mkLM D_q97_1 S_q97_1_w), (19, mkLM D_q97_2 S_q97_2_w), (23, mkLM D_q97_3 S_q97_3_w)], [(13, [(0, []), (1, []), (2, []), (3, []), (5, []), (6, []), (7, []), (10, []), (11, []), (12, []), (13, []), (4, [1, 2, 3]), (8, [5, 6, 7, 4, 1, 2, 3]), (9, [4, 8, 1, 2, 3, 5, 6, 7]), (14, [9, 13, 4, 8, 12, 1, 2, 3, 5, 6, 7, 10, 11]), (15, [0, 14, 9, 13, 4, 8, 12, 1, 2, 3, 5, 6, 7, 10, 11]), (16, [15, 0, 1, 2, 3, 4, 5, 6, 7, 8, 9, 10, 11, 12, 13, 14])]), (25, [(0, []), (1, []), (2, []), (3, []), (5, []), (6, []), (7, []), (10, []), (11, []), (12, []), (13, []), (4, [1, 2, 3]), (8, [5, 6, 7, 4, 1, 2, 3]), (9, [4, 8, 1, 2, 3, 5, 6, 7]), (14, [9, 13, 4, 8, 12, 1, 2, 3, 5, 6, 7, 10, 11]), (15, [0, 14, 9, 13, 4, 8, 12, 1, 2, 3, 5, 6, 7, 10, 11]), (16, [15, 0, 1, 2, 3, 4, 5, 6, 7, 8, 9, 10, 11, 12, 13, 14])])]⟩
theorem cons_q97 : ConsOk Tryz.prog E_q97.cons := consOk_cons m_q69 (callable_of Tryz.func28 (by kernel_rfl)) (consOk_cons m_q83 (callable_of Tryz.func83 (by kernel_rfl)) (consOk_cons m_q86 (callable_of Tryz.func72 (by kernel_rfl)) (consOk_cons m_q61 (callable_of Tryz.func84 (by kernel_rfl)) (consOk_cons m_q89 (callable_of Tryz.func68 (by kernel_rfl)) (consOk_cons m_q95 (callable_of Tryz.func85 (by kernel_rfl)) (consOk_cons m_q84 (callable_of Tryz.func86 (by kernel_rfl)) (consOk_cons m_q85 (callable_of Tryz.func74 (by kernel_rfl)) (consOk_cons m_q96 (callable_of Tryz.func87 (by kernel_rfl)) (consOk_nil)))))))))
theorem S_q97_3_ok (x : Tys D_q97_3.head.ks) : stepL E_q97 D_q97_3 body_q97_3 x = S_impl_Factor_m_3 x := by kernel_rfl
theorem loops_q97_3 : loopsIn body_q97_3 = [] := by kernel_rfl
theorem l_q97_3 : LoopOk Tryz.prog (mkLM D_q97_3 S_q97_3_w) body_q97_3 := loop_ok2 mix lay_ok cons_q97 (by kernel_rfl) (loops_mem loops_q97_3 (trivial)) S_q97_3_ok fun _ _ h => h
theorem S_q97_2_ok (x : Tys D_q97_2.head.ks) : stepL E_q97 D_q97_2 body_q97_2 x = S_impl_Factor_m_2 x := by kernel_rfl
theorem loops_q97_2 : loopsIn body_q97_2 = [body_q97_3] := by kernel_rfl
theorem l_q97_2 : LoopOk Tryz.prog (mkLM D_q97_2 S_q97_2_w) body_q97_2 := loop_ok2 mix lay_ok cons_q97 (by kernel_rfl) (loops_mem loops_q97_2 (⟨⟨_, by kernel_rfl, l_q97_3⟩, trivial⟩)) S_q97_2_ok fun _ _ h => h
theorem S_q97_1_ok (x : Tys D_q97_1.head.ks) : stepL E_q97 D_q97_1 body_q97_1 x = S_impl_Factor_m_1 x := by kernel_rfl
theorem loops_q97_1 : loopsIn body_q97_1 = [] := by kernel_rfl
theorem l_q97_1 : LoopOk Tryz.prog (mkLM D_q97_1 S_q97_1_w) body_q97_1 := loop_ok2 mix lay_ok cons_q97 (by kernel_rfl) (loops_mem loops_q97_1 (trivial)) S_q97_1_ok fun _ _ h => h
theorem S_q97_0_ok (x : Tys D_q97_0.head.ks) : stepL E_q97 D_q97_0 body_q97_0 x = S_impl_Factor_m_0 x := by kernel_rfl
theorem loops_q97_0 : loopsIn body_q97_0 = [body_q97_1, body_q97_2] := by kernel_rfl
theorem l_q97_0 : LoopOk Tryz.prog (mkLM D_q97_0 S_q97_0_w) body_q97_0 := loop_ok2 mix lay_ok cons_q97 (by kernel_rfl) (loops_mem loops_q97_0 (⟨⟨_, by kernel_rfl, l_q97_1⟩, ⟨⟨_, by kernel_rfl, l_q97_2⟩, trivial⟩⟩)) S_q97_0_ok fun _ _ h => h
theorem loops_q97 : loopsIn code_q97 = [body_q97_0] := by kernel_rfl
theorem m_q97 : Meets Tryz.prog 26 c_q97 := meets_of (E := E_q97) (code := code_q97) mix lay_ok cons_q97 Tryz.func26 (by kernel_rfl) sg_q97 (by kernel_rfl) (fun y => ((⟨y.1, y.2.1, y.2.2.1⟩ : Mx), y.2.2.2.1, y.2.2.2.2.1, y.2.2.2.2.2.1)) c_q97.out (fun _ => rfl) c_q97.run (fun x => by kernel_rfl) (by kernel_rfl) (loops_mem loops_q97 (⟨⟨_, by kernel_rfl, l_q97_0⟩, trivial⟩))
noncomputable def sg_q108 : Sig := ⟨[(true, [.d (.int .i64), .d (.int .i64), .own 191])], [(191, .arr false .rat)], false, [(false, [.d (.bool)])], [(191, .arr false .rat)]⟩
noncomputable def c_q108 : Con := ⟨sg_q108, Bool × List Rt, fun x => M_impl_IsPositive_m (⟨x.1, x.2.1, x.2.2.1⟩ : Mx), fun r => (r.1, r.2, ())⟩
noncomputable def code_q108 : Code := Tryz.f27.body.getD .skip
noncomputable def E_q108 : Env := ⟨layD, [(26, c_q97)], [], []⟩
theorem cons_q108 : ConsOk Tryz.prog E_q108.cons := consOk_cons m_q97 (callable_of Tryz.func26 (by kernel_rfl)) (consOk_nil)
theorem loops_q108 : loopsIn code_q108 = [] := by kernel_rfl
theorem m_q108 : Meets Tryz.prog 27 c_q108 := meets_of (E := E_q108) (code := code_q108) mix layD_ok cons_q108 Tryz.func27 (by kernel_rfl) sg_q108 (by kernel_rfl) (fun y => (y.1, y.2.1)) c_q108.out (fun _ => rfl) c_q108.run (fun x => by kernel_rfl) (by kernel_rfl) (loops_mem loops_q108 (trivial))
noncomputable def sg_q112 : Sig := ⟨[(false, [.d (.int .i64)]), (false, [.d (.int .i64)]), (false, [.own 12863])], [(12863, .arr false .int)], false, [(true, [.d (.int .i64), .d (.int .i64), .own 0])], [(0, .arr false .rat), (12863, .arr false .int)]⟩
noncomputable def c_q112 : Con := ⟨sg_q112, Mx × List Int, fun x => M_impl_MatrixOf_ddm x.1 x.2.1 x.2.2.1, fun r => (r.1.rows, r.1.cols, r.1.cells, r.2, ())⟩
noncomputable def code_q112 : Code := Tryz.f21.body.getD .skip
noncomputable def body_q112_0 : Code := (loopsIn code_q112).getD 0 .skip
noncomputable def D_q112_0 : LoopD := ⟨⟨mkSlots [(6, false, [.lp 384 0]), (7, false, [.lp 448 0]), (30, false, [.own 12863]), (31, false, [.d (.int .i64)]), (32, false, [.d (.int .i64)])] 45 0, [(384, .box [.d (.int .i64), .d (.int .i64), .d (.sl .rat)]), (448, .box [.d (.int .i64), .d (.int .i64), .own 2944]), (2944, .arr false .rat), (12863, .arr false .int)]⟩, [(.box 448 2, 2944, .rat)], [(.exit 0, ⟨mkSlots [(6, false, [.lp 384 0]), (7, false, [.lp 448 0])] 45 0, [(384, .box [.d (.int .i64), .d (.int .i64), .d (.sl .rat)]), (448, .box [.d (.int .i64), .d (.int .i64), .own 2944]), (2944, .arr false .rat), (12863, .arr false .int)]⟩, [(.box 448 2, 2944, .rat)])]⟩
noncomputable def S_q112_0_w (x : Tys D_q112_0.head.ks) : Option (OutT D_q112_0.outs) := @whileO (Int × Int × Int × Int × (List Rt) × Int × Int × (List Rt) × (List Int) × Unit) (Int × Int × (List Rt) × Int × Int × (List Rt) × (List Int) × Unit) S_impl_MatrixOf_ddm_0 x
noncomputable def E_q112 : Env := ⟨lay, [(75, c_q46), (67, c_q78)], [(5, mkLM D_q112_0 S_q112_0_w)], [(7, [(0, []), (1, []), (2, []), (3, [2]), (4, [3, 2]), (5, [1, 4, 3, 0, 2]), (6, []), (7, [6, 5, 0, 1, 2, 3, 4])])]⟩
theorem cons_q112 : ConsOk Tryz.prog E_q112.cons := consOk_cons m_q46 (callable_of Tryz.func75 (by kernel_rfl)) (consOk_cons m_q78 (callable_of Tryz.func67 (by kernel_rfl)) (consOk_nil))
theorem S_q112_0_ok (x : Tys D_q112_0.head.ks) : stepL E_q112 D_q112_0 body_q112_0 x = S_impl_MatrixOf_ddm_0 x := by kernel_rfl
theorem loops_q112_0 : loopsIn body_q112_0 = [] := by kernel_rfl
theorem l_q112_0 : LoopOk Tryz.prog (mkLM D_q112_0 S_q112_0_w) body_q112_0 := loop_ok2 mix lay_ok cons_q112 (by kernel_rfl) (loops_mem loops_q112_0 (trivial)) S_q112_0_ok fun _ _ h => h
theorem loops_q112 : loopsIn code_q112 = [body_q112_0] := by kernel_rfl
theorem m_q112 : Meets Tryz.prog 21 c_q112 := meets_of (E := E_q112) (code := code_q112) mix lay_ok cons_q112 Tryz.func21 (by kernel_rfl) sg_q112 (by kernel_rfl) (fun y => ((⟨y.1, y.2.1, y.2.2.1⟩ : Mx), y.2.2.2.1)) c_q112.out (fun _ => rfl) c_q112.run (fun x => by kernel_rfl) (by kernel_rfl) (loops_mem loops_q112 (⟨⟨_, by kernel_rfl, l_q112_0⟩, trivial⟩))
noncomputable def sg_q113 : Sig := ⟨[(true, [.d (.bool), .d (.sl .int), .d (.sl .int)])], [], false, [(false, [.d (.int .i64)])], []⟩
noncomputable def c_q113 : Con := ⟨sg_q113, Int, fun x => M_impl_RatSign (⟨x.1, x.2.1, x.2.2.1⟩ : Rt), fun r => (r, ())⟩
noncomputable def code_q113 : Code := Tryz.f17.body.getD .skip
noncomputable def E_q113 : Env := ⟨layD, [(73, c_q58), (74, c_q85)], [], []⟩
theorem cons_q113 : ConsOk Tryz.prog E_q113.cons := consOk_cons m_q58 (callable_of Tryz.func73 (by kernel_rfl)) (consOk_cons m_q85 (callable_of Tryz.func74 (by kernel_rfl)) (consOk_nil))
theorem loops_q113 : loopsIn code_q113 = [] := by kernel_rfl
theorem m_q113 : Meets Tryz.prog 17 c_q113 := meets_of (E := E_q113) (code := code_q113) mix layD_ok cons_q113 Tryz.func17 (by kernel_rfl) sg_q113 (by kernel_rfl) (fun y => y.1) c_q113.out (fun _ => rfl) c_q113.run (fun x => by kernel_rfl) (by kernel_rfl) (loops_mem loops_q113 (trivial))
noncomputable def sg_q122 : Sig := ⟨[(false, [.d (.int .i64)]), (false, [.d (.int .i64)]), (false, [.fn 144 [[.int .i64, .int .i64, .sl .rat]]])], [], false, [(true, [.d (.int .i64), .d (.int .i64), .own 0])], [(0, .arr false .rat)]⟩
noncomputable def c_q122 : Con := ⟨sg_q122, Mx, fun x => M_impl_built__impl_turned_c1 x.1 x.2.1 (⟨x.2.2.1, x.2.2.2.1, x.2.2.2.2.1⟩ : Mx), fun r => (r.rows, r.cols, r.cells, ())⟩
noncomputable def code_q122 : Code := Tryz.f76.body.getD .skip
noncomputable def body_q122_0 : Code := (loopsIn code_q122).getD 0 .skip
noncomputable def body_q122_1 : Code := (loopsIn body_q122_0).getD 0 .skip
noncomputable def D_q122_0 : LoopD := ⟨⟨mkSlots [(1, false, [.d (.int .i64)]), (2, false, [.fn 144 [[.int .i64, .int .i64, .sl .rat]]]), (6, false, [.lp 384 0]), (7, false, [.lp 448 0]), (13, false, [.d (.int .i64)]), (14, false, [.d (.int .i64)])] 33 0, [(384, .box [.d (.int .i64), .d (.int .i64), .d (.sl .rat)]), (448, .box [.d (.int .i64), .d (.int .i64), .own 2176]), (2176, .arr false .rat)]⟩, [(.box 448 2, 2176, .rat)], [(.exit 0, ⟨mkSlots [(6, false, [.lp 384 0]), (7, false, [.lp 448 0])] 33 0, [(384, .box [.d (.int .i64), .d (.int .i64), .d (.sl .rat)]), (448, .box [.d (.int .i64), .d (.int .i64), .own 2176]), (2176, .arr false .rat)]⟩, [(.box 448 2, 2176, .rat)])]⟩
noncomputable def D_q122_1 : LoopD := ⟨⟨mkSlots [(1, false, [.d (.int .i64)]), (2, false, [.fn 144 [[.int .i64, .int .i64, .sl .rat]]]), (6, false, [.lp 384 0]), (7, false, [.lp 448 0]), (8, false, [.d (.int .i64)]), (13, false, [.d (.int .i64)]), (14, false, [.d (.int .i64)]), (17, false, [.d (.int .i64)]), (18, false, [.d (.int .i64)])] 33 0, [(384, .box [.d (.int .i64), .d (.int .i64), .d (.sl .rat)]), (448, .box [.d (.int .i64), .d (.int .i64), .own 2176]), (2176, .arr false .rat)]⟩, [(.box 448 2, 2176, .rat)], [(.exit 2, ⟨mkSlots [(1, false, [.d (.int .i64)]), (2, false, [.fn 144 [[.int .i64, .int .i64, .sl .rat]]]), (6, false, [.lp 384 0]), (7, false, [.lp 448 0]), (13, false, [.d (.int .i64)]), (14, false, [.d (.int .i64)])] 33 0, [(384, .box [.d (.int .i64), .d (.int .i64), .d (.sl .rat)]), (448, .box [.d (.int .i64), .d (.int .i64), .own 2176]), (2176, .arr false .rat)]⟩, [(.box 448 2, 2176, .rat)])]⟩
noncomputable def S_q122_0_w (x : Tys D_q122_0.head.ks) : Option (OutT D_q122_0.outs) := @whileO (Int × Int × Int × (List Rt) × Int × Int × Int × Int × (List Rt) × Int × Int × (List Rt) × Unit) (Int × Int × (List Rt) × Int × Int × (List Rt) × Unit) S_impl_built__impl_turned_c1_0 x
noncomputable def S_q122_1_w (x : Tys D_q122_1.head.ks) : Option (OutT D_q122_1.outs) := @whileO (Int × Int × Int × (List Rt) × Int × Int × Int × Int × Int × Int × Int × (List Rt) × Int × Int × (List Rt) × Unit) (Int × Int × Int × (List Rt) × Int × Int × Int × Int × (List Rt) × Int × Int × (List Rt) × Unit) S_impl_built__impl_turned_c1_1 x
noncomputable def E_q122 : Env := ⟨lay, [(144, c_q62)], [(3, mkLM D_q122_0 S_q122_0_w), (6, mkLM D_q122_1 S_q122_1_w)], [(8, [(0, []), (1, []), (2, []), (3, []), (4, []), (5, [2, 3, 4]), (6, [5, 2, 3, 4]), (7, [1, 6, 5, 0, 2, 3, 4]), (8, []), (9, [8, 7, 0, 1, 2, 3, 4, 5, 6])])]⟩
theorem cons_q122 : ConsOk Tryz.prog E_q122.cons := consOk_cons m_q62 (callable_of Tryz.func144 (by kernel_rfl)) (consOk_nil)
theorem S_q122_1_ok (x : Tys D_q122_1.head.ks) : stepL E_q122 D_q122_1 body_q122_1 x = S_impl_built__impl_turned_c1_1 x := by kernel_rfl
theorem loops_q122_1 : loopsIn body_q122_1 = [] := by kernel_rfl
theorem l_q122_1 : LoopOk Tryz.prog (mkLM D_q122_1 S_q122_1_w) body_q122_1 := loop_ok2 mix lay_ok cons_q122 (by kernel_rfl) (loops_mem loops_q122_1 (trivial)) S_q122_1_ok fun _ _ h => h
theorem S_q122_0_ok (x : Tys D_q122_0.head.ks) : stepL E_q122 D_q122_0 body_q122_0 x = S_impl_built__impl_turned_c1_0 x := by kernel_rfl
theorem loops_q122_0 : loopsIn body_q122_0 = [body_q122_1] := by kernel_rfl
theorem l_q122_0 : LoopOk Tryz.prog (mkLM D_q122_0 S_q122_0_w) body_q122_0 := loop_ok2 mix lay_ok cons_q122 (by kernel_rfl) (loops_mem loops_q122_0 (⟨⟨_, by kernel_rfl, l_q122_1⟩, trivial⟩)) S_q122_0_ok fun _ _ h => h
theorem loops_q122 : loopsIn code_q122 = [body_q122_0] := by kernel_rfl
theorem m_q122 : Meets Tryz.prog 76 c_q122 := meets_of (E := E_q122) (code := code_q122) mix lay_ok cons_q122 Tryz.func76 (by kernel_rfl) sg_q122 (by kernel_rfl) (fun y => (⟨y.1, y.2.1, y.2.2.1⟩ : Mx)) c_q122.out (fun _ => rfl) c_q122.run (fun x => by kernel_rfl) (by kernel_rfl) (loops_mem loops_q122 (⟨⟨_, by kernel_rfl, l_q122_0⟩, trivial⟩))
noncomputable def sg_q123 : Sig := ⟨[(true, [.d (.int .i64), .d (.int .i64), .d (.sl .rat)])], [], false, [(true, [.d (.int .i64), .d (.int .i64), .own 0])], [(0, .arr false .rat)]⟩
noncomputable def c_q123 : Con := ⟨sg_q123, Mx, fun x => M_impl_turned (⟨x.1, x.2.1, x.2.2.1⟩ : Mx), fun r => (r.rows, r.cols, r.cells, ())⟩
noncomputable def code_q123 : Code := Tryz.f88.body.getD .skip
noncomputable def E_q123 : Env := ⟨lay, [(76, c_q122)], [], []⟩
theorem cons_q123 : ConsOk Tryz.prog E_q123.cons := consOk_cons m_q122 (callable_of Tryz.func76 (by kernel_rfl)) (consOk_nil)
theorem loops_q123 : loopsIn code_q123 = [] := by kernel_rfl
theorem m_q123 : Meets Tryz.prog 88 c_q123 := meets_of (E := E_q123) (code := code_q123) mix lay_ok cons_q123 Tryz.func88 (by kernel_rfl) sg_q123 (by kernel_rfl) (fun y => (⟨y.1, y.2.1, y.2.2.1⟩ : Mx)) c_q123.out (fun _ => rfl) c_q123.run (fun x => by kernel_rfl) (by kernel_rfl) (loops_mem loops_q123 (trivial))
noncomputable def sg_q114 : Sig := ⟨[(true, [.d (.int .i64), .d (.int .i64), .d (.sl .rat)]), (false, [.d (.int .i64)])], [], false, [(false, [.d (.sl .rat)])], []⟩
noncomputable def c_q114 : Con := ⟨sg_q114, List Rt, fun x => M_impl_Matrix_row (⟨x.1, x.2.1, x.2.2.1⟩ : Mx) x.2.2.2.1, fun r => (r, ())⟩
noncomputable def code_q114 : Code := Tryz.f122.body.getD .skip
noncomputable def E_q114 : Env := ⟨layD, [], [], []⟩
theorem cons_q114 : ConsOk Tryz.prog E_q114.cons := consOk_nil
theorem loops_q114 : loopsIn code_q114 = [] := by kernel_rfl
theorem m_q114 : Meets Tryz.prog 122 c_q114 := meets_of (E := E_q114) (code := code_q114) mix layD_ok cons_q114 Tryz.func122 (by kernel_rfl) sg_q114 (by kernel_rfl) (fun y => y.1) c_q114.out (fun _ => rfl) c_q114.run (fun x => by kernel_rfl) (by kernel_rfl) (loops_mem loops_q114 (trivial))
noncomputable def sg_q115 : Sig := ⟨[(false, [.d (.sl .rat)]), (false, [.d (.sl .rat)])], [], false, [(true, [.d (.bool), .own 0, .own 1])], [(0, .arr false .int), (1, .arr false .int)]⟩
noncomputable def c_q115 : Con := ⟨sg_q115, Rt, fun x => M_impl_inner x.1 x.2.1, fun r => (r.neg, r.mag, r.den, ())⟩
noncomputable def code_q115 : Code := Tryz.f89.body.getD .skip
noncomputable def body_q115_0 : Code := (loopsIn code_q115).getD 0 .skip
noncomputable def D_q115_0 : LoopD := ⟨⟨mkSlots [(0, false, [.d (.sl .rat)]), (1, false, [.d (.sl .rat)]), (4, false, [.lp 256 0]), (5, false, [.lp 320 0]), (9, false, [.d (.int .i64)]), (10, false, [.d (.int .i64)])] 26 0, [(256, .box [.d (.bool), .d (.sl .int), .d (.sl .int)]), (320, .box [.d (.bool), .own 1728, .own 1792]), (1728, .arr false .int), (1792, .arr false .int)]⟩, [], [(.exit 0, ⟨mkSlots [(4, false, [.lp 256 0]), (5, false, [.lp 320 0])] 26 0, [(256, .box [.d (.bool), .d (.sl .int), .d (.sl .int)]), (320, .box [.d (.bool), .own 1728, .own 1792]), (1728, .arr false .int), (1792, .arr false .int)]⟩, [])]⟩
noncomputable def S_q115_0_w (x : Tys D_q115_0.head.ks) : Option (OutT D_q115_0.outs) := @whileO ((List Rt) × (List Rt) × Int × Int × Bool × (List Int) × (List Int) × Bool × (List Int) × (List Int) × Unit) (Bool × (List Int) × (List Int) × Bool × (List Int) × (List Int) × Unit) S_impl_inner_0 x
noncomputable def E_q115 : Env := ⟨layD, [(67, c_q78), (68, c_q89), (143, c_q94)], [(3, mkLM D_q115_0 S_q115_0_w)], [(5, [(0, []), (1, []), (2, []), (3, []), (4, []), (5, []), (6, []), (7, []), (8, []), (9, [4, 8, 3, 7, 1, 2, 5, 6]), (10, [0, 9, 4, 8, 3, 7, 1, 2, 5, 6]), (11, [10, 0, 1, 2, 3, 4, 5, 6, 7, 8, 9])])]⟩
theorem cons_q115 : ConsOk Tryz.prog E_q115.cons := consOk_cons m_q78 (callable_of Tryz.func67 (by kernel_rfl)) (consOk_cons m_q89 (callable_of Tryz.func68 (by kernel_rfl)) (consOk_cons m_q94 (callable_of Tryz.func143 (by kernel_rfl)) (consOk_nil)))
theorem S_q115_0_ok (x : Tys D_q115_0.head.ks) : stepL E_q115 D_q115_0 body_q115_0 x = S_impl_inner_0 x := by kernel_rfl
theorem loops_q115_0 : loopsIn body_q115_0 = [] := by kernel_rfl
theorem l_q115_0 : LoopOk Tryz.prog (mkLM D_q115_0 S_q115_0_w) body_q115_0 := loop_ok2 mix layD_ok cons_q115 (by kernel_rfl) (loops_mem loops_q115_0 (trivial)) S_q115_0_ok fun _ _ h => h
theorem loops_q115 : loopsIn code_q115 = [body_q115_0] := by kernel_rfl
theorem m_q115 : Meets Tryz.prog 89 c_q115 := meets_of (E := E_q115) (code := code_q115) mix layD_ok cons_q115 Tryz.func89 (by kernel_rfl) sg_q115 (by kernel_rfl) (fun y => (⟨y.1, y.2.1, y.2.2.1⟩ : Rt)) c_q115.out (fun _ => rfl) c_q115.run (fun x => by kernel_rfl) (by kernel_rfl) (loops_mem loops_q115 (⟨⟨_, by kernel_rfl, l_q115_0⟩, trivial⟩))
noncomputable def sg_q116 : Sig := ⟨[(false, [.d (.int .i64)]), (false, [.d (.int .i64)]), (false, [.sp [.int .i64, .int .i64, .sl .rat]]), (false, [.sp [.int .i64, .int .i64, .sl .rat]])], [], false, [(true, [.d (.bool), .own 0, .own 1])], [(0, .arr false .int), (1, .arr false .int)]⟩
noncomputable def c_q116 : Con := ⟨sg_q116, Rt, fun x => M_impl_multiply_c1 x.1 x.2.1 (⟨x.2.2.1, x.2.2.2.1, x.2.2.2.2.1⟩ : Mx) (⟨x.2.2.2.2.2.1, x.2.2.2.2.2.2.1, x.2.2.2.2.2.2.2.1⟩ : Mx), fun r => (r.neg, r.mag, r.den, ())⟩
noncomputable def code_q116 : Code := Tryz.f134.body.getD .skip
noncomputable def E_q116 : Env := ⟨layD, [(122, c_q114), (89, c_q115)], [], [(1, [(0, []), (1, []), (3, []), (4, []), (2, [0, 1]), (5, [3, 4, 2, 0, 1]), (6, [2, 5, 0, 1, 3, 4]), (7, [6, 0, 1, 2, 3, 4, 5])])]⟩
theorem cons_q116 : ConsOk Tryz.prog E_q116.cons := consOk_cons m_q114 (callable_of Tryz.func122 (by kernel_rfl)) (consOk_cons m_q115 (callable_of Tryz.func89 (by kernel_rfl)) (consOk_nil))
theorem loops_q116 : loopsIn code_q116 = [] := by kernel_rfl
theorem m_q116 : Meets Tryz.prog 134 c_q116 := meets_of (E := E_q116) (code := code_q116) mix layD_ok cons_q116 Tryz.func134 (by kernel_rfl) sg_q116 (by kernel_rfl) (fun y => (⟨y.1, y.2.1, y.2.2.1⟩ : Rt)) c_q116.out (fun _ => rfl) c_q116.run (fun x => by kernel_rfl) (by kernel_rfl) (loops_mem loops_q116 (trivial))
noncomputable def sg_q124 : Sig := ⟨[(false, [.d (.int .i64)]), (false, [.d (.int .i64)]), (false, [.fn 134 [[.int .i64, .int .i64, .sl .rat], [.int .i64, .int .i64, .sl .rat]]])], [], false, [(true, [.d (.int .i64), .d (.int .i64), .own 0])], [(0, .arr false .rat)]⟩
noncomputable def c_q124 : Con := ⟨sg_q124, Mx, fun x => M_impl_built__impl_multiply_c1 x.1 x.2.1 (⟨x.2.2.1, x.2.2.2.1, x.2.2.2.2.1⟩ : Mx) (⟨x.2.2.2.2.2.1, x.2.2.2.2.2.2.1, x.2.2.2.2.2.2.2.1⟩ : Mx), fun r => (r.rows, r.cols, r.cells, ())⟩
noncomputable def code_q124 : Code := Tryz.f76.body.getD .skip
noncomputable def body_q124_0 : Code := (loopsIn code_q124).getD 0 .skip
noncomputable def body_q124_1 : Code := (loopsIn body_q124_0).getD 0 .skip
noncomputable def D_q124_0 : LoopD := ⟨⟨mkSlots [(1, false, [.d (.int .i64)]), (2, false, [.fn 134 [[.int .i64, .int .i64, .sl .rat], [.int .i64, .int .i64, .sl .rat]]]), (6, false, [.lp 384 0]), (7, false, [.lp 448 0]), (13, false, [.d (.int .i64)]), (14, false, [.d (.int .i64)])] 33 0, [(384, .box [.d (.int .i64), .d (.int .i64), .d (.sl .rat)]), (448, .box [.d (.int .i64), .d (.int .i64), .own 2176]), (2176, .arr false .rat)]⟩, [(.box 448 2, 2176, .rat)], [(.exit 0, ⟨mkSlots [(6, false, [.lp 384 0]), (7, false, [.lp 448 0])] 33 0, [(384, .box [.d (.int .i64), .d (.int .i64), .d (.sl .rat)]), (448, .box [.d (.int .i64), .d (.int .i64), .own 2176]), (2176, .arr false .rat)]⟩, [(.box 448 2, 2176, .rat)])]⟩
noncomputable def D_q124_1 : LoopD := ⟨⟨mkSlots [(1, false, [.d (.int .i64)]), (2, false, [.fn 134 [[.int .i64, .int .i64, .sl .rat], [.int .i64, .int .i64, .sl .rat]]]), (6, false, [.lp 384 0]), (7, false, [.lp 448 0]), (8, false, [.d (.int .i64)]), (13, false, [.d (.int .i64)]), (14, false, [.d (.int .i64)]), (17, false, [.d (.int .i64)]), (18, false, [.d (.int .i64)])] 33 0, [(384, .box [.d (.int .i64), .d (.int .i64), .d (.sl .rat)]), (448, .box [.d (.int .i64), .d (.int .i64), .own 2176]), (2176, .arr false .rat)]⟩, [(.box 448 2, 2176, .rat)], [(.exit 2, ⟨mkSlots [(1, false, [.d (.int .i64)]), (2, false, [.fn 134 [[.int .i64, .int .i64, .sl .rat], [.int .i64, .int .i64, .sl .rat]]]), (6, false, [.lp 384 0]), (7, false, [.lp 448 0]), (13, false, [.d (.int .i64)]), (14, false, [.d (.int .i64)])] 33 0, [(384, .box [.d (.int .i64), .d (.int .i64), .d (.sl .rat)]), (448, .box [.d (.int .i64), .d (.int .i64), .own 2176]), (2176, .arr false .rat)]⟩, [(.box 448 2, 2176, .rat)])]⟩
noncomputable def S_q124_0_w (x : Tys D_q124_0.head.ks) : Option (OutT D_q124_0.outs) := @whileO (Int × Int × Int × (List Rt) × Int × Int × (List Rt) × Int × Int × Int × Int × (List Rt) × Int × Int × (List Rt) × Unit) (Int × Int × (List Rt) × Int × Int × (List Rt) × Unit) S_impl_built__impl_multiply_c1_0 x
noncomputable def S_q124_1_w (x : Tys D_q124_1.head.ks) : Option (OutT D_q124_1.outs) := @whileO (Int × Int × Int × (List Rt) × Int × Int × (List Rt) × Int × Int × Int × Int × Int × Int × Int × (List Rt) × Int × Int × (List Rt) × Unit) (Int × Int × Int × (List Rt) × Int × Int × (List Rt) × Int × Int × Int × Int × (List Rt) × Int × Int × (List Rt) × Unit) S_impl_built__impl_multiply_c1_1 x
noncomputable def E_q124 : Env := ⟨lay, [(134, c_q116)], [(3, mkLM D_q124_0 S_q124_0_w), (6, mkLM D_q124_1 S_q124_1_w)], [(8, [(0, []), (1, []), (2, []), (3, []), (4, []), (5, [2, 3, 4]), (6, [5, 2, 3, 4]), (7, [1, 6, 5, 0, 2, 3, 4]), (8, []), (9, [8, 7, 0, 1, 2, 3, 4, 5, 6])])]⟩
theorem cons_q124 : ConsOk Tryz.prog E_q124.cons := consOk_cons m_q116 (callable_of Tryz.func134 (by kernel_rfl)) (consOk_nil)
theorem S_q124_1_ok (x : Tys D_q124_1.head.ks) : stepL E_q124 D_q124_1 body_q124_1 x = S_impl_built__impl_multiply_c1_1 x := by kernel_rfl
theorem loops_q124_1 : loopsIn body_q124_1 = [] := by kernel_rfl
theorem l_q124_1 : LoopOk Tryz.prog (mkLM D_q124_1 S_q124_1_w) body_q124_1 := loop_ok2 mix lay_ok cons_q124 (by kernel_rfl) (loops_mem loops_q124_1 (trivial)) S_q124_1_ok fun _ _ h => h
theorem S_q124_0_ok (x : Tys D_q124_0.head.ks) : stepL E_q124 D_q124_0 body_q124_0 x = S_impl_built__impl_multiply_c1_0 x := by kernel_rfl
theorem loops_q124_0 : loopsIn body_q124_0 = [body_q124_1] := by kernel_rfl
theorem l_q124_0 : LoopOk Tryz.prog (mkLM D_q124_0 S_q124_0_w) body_q124_0 := loop_ok2 mix lay_ok cons_q124 (by kernel_rfl) (loops_mem loops_q124_0 (⟨⟨_, by kernel_rfl, l_q124_1⟩, trivial⟩)) S_q124_0_ok fun _ _ h => h
theorem loops_q124 : loopsIn code_q124 = [body_q124_0] := by kernel_rfl
theorem m_q124 : Meets Tryz.prog 76 c_q124 := meets_of (E := E_q124) (code := code_q124) mix lay_ok cons_q124 Tryz.func76 (by kernel_rfl) sg_q124 (by kernel_rfl) (fun y => (⟨y.1, y.2.1, y.2.2.1⟩ : Mx)) c_q124.out (fun _ => rfl) c_q124.run (fun x => by kernel_rfl) (by kernel_rfl) (loops_mem loops_q124 (⟨⟨_, by kernel_rfl, l_q124_0⟩, trivial⟩))
noncomputable def sg_q118 : Sig := ⟨[(false, [.d (.sl .rat)])], [], false, [(false, [.d (.bool)])], []⟩
noncomputable def c_q118 : Con := ⟨sg_q118, Bool, fun x => M_impl_complete x.1, fun r => (r, ())⟩
noncomputable def code_q118 : Code := Tryz.f123.body.getD .skip
noncomputable def body_q118_0 : Code := (loopsIn code_q118).getD 0 .skip
noncomputable def D_q118_0 : LoopD := ⟨⟨mkSlots [(5, false, [.d (.sl .rat)]), (6, false, [.d (.int .i64)]), (7, false, [.d (.int .i64)])] 14 0, []⟩, [], [(.ret, ⟨mkSlots [(2, false, [.d (.bool)])] 14 0, []⟩, []), (.exit 0, ⟨mkSlots [] 14 0, []⟩, [])]⟩
noncomputable def S_q118_0_w (x : Tys D_q118_0.head.ks) : Option (OutT D_q118_0.outs) := @whileO ((List Rt) × Int × Int × Unit) ((Bool × Unit) ⊕ (Unit)) S_impl_complete_0 x
noncomputable def E_q118 : Env := ⟨layD, [(86, c_q84)], [(2, mkLM D_q118_0 S_q118_0_w)], []⟩
theorem cons_q118 : ConsOk Tryz.prog E_q118.cons := consOk_cons m_q84 (callable_of Tryz.func86 (by kernel_rfl)) (consOk_nil)
theorem S_q118_0_ok (x : Tys D_q118_0.head.ks) : stepL E_q118 D_q118_0 body_q118_0 x = S_impl_complete_0 x := by kernel_rfl
theorem loops_q118_0 : loopsIn body_q118_0 = [] := by kernel_rfl
theorem l_q118_0 : LoopOk Tryz.prog (mkLM D_q118_0 S_q118_0_w) body_q118_0 := loop_ok2 mix layD_ok cons_q118 (by kernel_rfl) (loops_mem loops_q118_0 (trivial)) S_q118_0_ok fun _ _ h => h
theorem loops_q118 : loopsIn code_q118 = [body_q118_0] := by kernel_rfl
theorem m_q118 : Meets Tryz.prog 123 c_q118 := meets_of (E := E_q118) (code := code_q118) mix layD_ok cons_q118 Tryz.func123 (by kernel_rfl) sg_q118 (by kernel_rfl) (fun y => y.1) c_q118.out (fun _ => rfl) c_q118.run (fun x => by kernel_rfl) (by kernel_rfl) (loops_mem loops_q118 (⟨⟨_, by kernel_rfl, l_q118_0⟩, trivial⟩))
noncomputable def sg_q125 : Sig := ⟨[(true, [.d (.int .i64), .d (.int .i64), .own 2])], [(2, .arr false .rat)], true, [(true, [.d (.int .i64), .d (.int .i64), .own 0]), (false, [.d (.bool)])], [(0, .arr false .rat)]⟩
noncomputable def c_q125 : Con := ⟨sg_q125, Mx × Bool, fun x => M_impl_givenMatrix_c (⟨x.1, x.2.1, x.2.2.1⟩ : Mx), fun r => (r.1.rows, r.1.cols, r.2, r.1.cells, ())⟩
noncomputable def code_q125 : Code := Tryz.f133.body.getD .skip
noncomputable def E_q125 : Env := ⟨layD, [(123, c_q118)], [], []⟩
theorem cons_q125 : ConsOk Tryz.prog E_q125.cons := consOk_cons m_q118 (callable_of Tryz.func123 (by kernel_rfl)) (consOk_nil)
theorem loops_q125 : loopsIn code_q125 = [] := by kernel_rfl
theorem m_q125 : Meets Tryz.prog 133 c_q125 := meets_of (E := E_q125) (code := code_q125) mix layD_ok cons_q125 Tryz.func133 (by kernel_rfl) sg_q125 (by kernel_rfl) (fun y => ((⟨y.1, y.2.1, y.2.2.2.1⟩ : Mx), y.2.2.1)) c_q125.out (fun _ => rfl) c_q125.run (fun x => by kernel_rfl) (by kernel_rfl) (loops_mem loops_q125 (trivial))
noncomputable def sg_q126 : Sig := ⟨[(true, [.d (.int .i64), .d (.int .i64), .d (.sl .rat)]), (true, [.d (.int .i64), .d (.int .i64), .d (.sl .rat)])], [], true, [(true, [.d (.int .i64), .d (.int .i64), .own 0]), (false, [.d (.bool)])], [(0, .arr false .rat)]⟩
noncomputable def c_q126 : Con := ⟨sg_q126, Mx × Bool, fun x => M_impl_multiply (⟨x.1, x.2.1, x.2.2.1⟩ : Mx) (⟨x.2.2.2.1, x.2.2.2.2.1, x.2.2.2.2.2.1⟩ : Mx), fun r => (r.1.rows, r.1.cols, r.2, r.1.cells, ())⟩
noncomputable def code_q126 : Code := Tryz.f78.body.getD .skip
noncomputable def E_q126 : Env := ⟨lay, [(88, c_q123), (76, c_q124), (133, c_q125)], [], []⟩
theorem cons_q126 : ConsOk Tryz.prog E_q126.cons := consOk_cons m_q123 (callable_of Tryz.func88 (by kernel_rfl)) (consOk_cons m_q124 (callable_of Tryz.func76 (by kernel_rfl)) (consOk_cons m_q125 (callable_of Tryz.func133 (by kernel_rfl)) (consOk_nil)))
theorem loops_q126 : loopsIn code_q126 = [] := by kernel_rfl
theorem m_q126 : Meets Tryz.prog 78 c_q126 := meets_of (E := E_q126) (code := code_q126) mix lay_ok cons_q126 Tryz.func78 (by kernel_rfl) sg_q126 (by kernel_rfl) (fun y => ((⟨y.1, y.2.1, y.2.2.2.1⟩ : Mx), y.2.2.1)) c_q126.out (fun _ => rfl) c_q126.run (fun x => by kernel_rfl) (by kernel_rfl) (loops_mem loops_q126 (trivial))
noncomputable def sg_q127 : Sig := ⟨[(true, [.d (.int .i64), .d (.int .i64), .d (.sl .rat)]), (true, [.d (.int .i64), .d (.int .i64), .d (.sl .rat)])], [], true, [(true, [.d (.int .i64), .d (.int .i64), .own 0]), (false, [.d (.bool)])], [(0, .arr false .rat)]⟩
noncomputable def c_q127 : Con := ⟨sg_q127, Mx × Bool, fun x => M_impl_Multiply (⟨x.1, x.2.1, x.2.2.1⟩ : Mx) (⟨x.2.2.2.1, x.2.2.2.2.1, x.2.2.2.2.2.1⟩ : Mx), fun r => (r.1.rows, r.1.cols, r.2, r.1.cells, ())⟩
noncomputable def code_q127 : Code := Tryz.f22.body.getD .skip
noncomputable def E_q127 : Env := ⟨lay, [(64, c_q59), (78, c_q126)], [], []⟩
theorem cons_q127 : ConsOk Tryz.prog E_q127.cons := consOk_cons m_q59 (callable_of Tryz.func64 (by kernel_rfl)) (consOk_cons m_q126 (callable_of Tryz.func78 (by kernel_rfl)) (consOk_nil))
theorem loops_q127 : loopsIn code_q127 = [] := by kernel_rfl
theorem m_q127 : Meets Tryz.prog 22 c_q127 := meets_of (E := E_q127) (code := code_q127) mix lay_ok cons_q127 Tryz.func22 (by kernel_rfl) sg_q127 (by kernel_rfl) (fun y => ((⟨y.1, y.2.1, y.2.2.2.1⟩ : Mx), y.2.2.1)) c_q127.out (fun _ => rfl) c_q127.run (fun x => by kernel_rfl) (by kernel_rfl) (loops_mem loops_q127 (trivial))
noncomputable def sg_q132 : Sig := ⟨[(true, [.d (.int .i64), .d (.int .i64), .d (.sl .rat)])], [], false, [(true, [.d (.int .i64), .d (.int .i64), .own 0])], [(0, .arr false .rat)]⟩
noncomputable def c_q132 : Con := ⟨sg_q132, Mx, fun x => M_impl_Transpose (⟨x.1, x.2.1, x.2.2.1⟩ : Mx), fun r => (r.rows, r.cols, r.cells, ())⟩
noncomputable def code_q132 : Code := Tryz.f29.body.getD .skip
noncomputable def E_q132 : Env := ⟨lay, [(64, c_q59), (88, c_q123)], [], []⟩
theorem cons_q132 : ConsOk Tryz.prog E_q132.cons := consOk_cons m_q59 (callable_of Tryz.func64 (by kernel_rfl)) (consOk_cons m_q123 (callable_of Tryz.func88 (by kernel_rfl)) (consOk_nil))
theorem loops_q132 : loopsIn code_q132 = [] := by kernel_rfl
theorem m_q132 : Meets Tryz.prog 29 c_q132 := meets_of (E := E_q132) (code := code_q132) mix lay_ok cons_q132 Tryz.func29 (by kernel_rfl) sg_q132 (by kernel_rfl) (fun y => (⟨y.1, y.2.1, y.2.2.1⟩ : Mx)) c_q132.out (fun _ => rfl) c_q132.run (fun x => by kernel_rfl) (by kernel_rfl) (loops_mem loops_q132 (trivial))
noncomputable def sg_q134 : Sig := ⟨[(false, [.d (.sl .byte)]), (false, [.d (.int .i64)])], [], false, [(false, [.lp 0 0])], [(0, .box [.d (.sl .byte), .d (.int .i64), .d (.int .i64)])]⟩
noncomputable def c_q134 : Con := ⟨sg_q134, Cur, fun x => M_spec_l30New x.1 x.2.1, fun r => (r.b, r.i, r.h, ())⟩
noncomputable def code_q134 : Code := Tryz.f62.body.getD .skip
noncomputable def body_q134_0 : Code := (loopsIn code_q134).getD 0 .skip
noncomputable def D_q134_0 : LoopD := ⟨⟨mkSlots [(1, false, [.d (.int .i64)]), (5, false, [.lp 512 0]), (6, false, [.d (.int .i64)])] 17 0, [(512, .box [.d (.sl .byte), .d (.int .i64), .d (.int .i64)])]⟩, [], [(.exit 0, ⟨mkSlots [(5, false, [.lp 512 0])] 17 0, [(512, .box [.d (.sl .byte), .d (.int .i64), .d (.int .i64)])]⟩, [])]⟩
noncomputable def S_q134_0_w (x : Tys D_q134_0.head.ks) : Option (OutT D_q134_0.outs) := @whileO (Int × Int × (List Int) × Int × Int × Unit) ((List Int) × Int × Int × Unit) S_spec_l30New_0 x
noncomputable def E_q134 : Env := ⟨layD, [(82, c_q1), (116, c_q2)], [(3, mkLM D_q134_0 S_q134_0_w)], []⟩
theorem cons_q134 : ConsOk Tryz.prog E_q134.cons := consOk_cons m_q1 (callable_of Tryz.func82 (by kernel_rfl)) (consOk_cons m_q2 (callable_of Tryz.func116 (by kernel_rfl)) (consOk_nil))
theorem S_q134_0_ok (x : Tys D_q134_0.head.ks) : stepL E_q134 D_q134_0 body_q134_0 x = S_spec_l30New_0 x := by kernel_rfl
theorem loops_q134_0 : loopsIn body_q134_0 = [] := by kernel_rfl
theorem l_q134_0 : LoopOk Tryz.prog (mkLM D_q134_0 S_q134_0_w) body_q134_0 := loop_ok2 mix layD_ok cons_q134 (by kernel_rfl) (loops_mem loops_q134_0 (trivial)) S_q134_0_ok fun _ _ h => h
theorem loops_q134 : loopsIn code_q134 = [body_q134_0] := by kernel_rfl
theorem m_q134 : Meets Tryz.prog 62 c_q134 := meets_of (E := E_q134) (code := code_q134) mix layD_ok cons_q134 Tryz.func62 (by kernel_rfl) sg_q134 (by kernel_rfl) (fun y => (⟨y.1, y.2.1, y.2.2.1⟩ : Cur)) c_q134.out (fun _ => rfl) c_q134.run (fun x => by kernel_rfl) (by kernel_rfl) (loops_mem loops_q134 (⟨⟨_, by kernel_rfl, l_q134_0⟩, trivial⟩))
noncomputable def sg_q136 : Sig := ⟨[(false, [.d (.sl .byte)]), (false, [.d (.int .i64)]), (false, [.d (.int .i64)])], [], false, [(false, [.own 0])], [(0, .arr false .rat)]⟩
noncomputable def c_q136 : Con := ⟨sg_q136, List Rt, fun x => M_spec_MakeVector x.1 x.2.1 x.2.2.1, fun r => (r, ())⟩
noncomputable def code_q136 : Code := Tryz.f13.body.getD .skip
noncomputable def E_q136 : Env := ⟨lay, [(62, c_q134), (63, c_q98)], [], []⟩
theorem cons_q136 : ConsOk Tryz.prog E_q136.cons := consOk_cons m_q134 (callable_of Tryz.func62 (by kernel_rfl)) (consOk_cons m_q98 (callable_of Tryz.func63 (by kernel_rfl)) (consOk_nil))
theorem loops_q136 : loopsIn code_q136 = [] := by kernel_rfl
theorem m_q136 : Meets Tryz.prog 13 c_q136 := meets_of (E := E_q136) (code := code_q136) mix lay_ok cons_q136 Tryz.func13 (by kernel_rfl) sg_q136 (by kernel_rfl) (fun y => y.1) c_q136.out (fun _ => rfl) c_q136.run (fun x => by kernel_rfl) (by kernel_rfl) (loops_mem loops_q136 (trivial))
noncomputable def sg_q137 : Sig := ⟨[(false, [.d (.sl .rat)])], [], false, [(false, [.d (.bool)])], []⟩
noncomputable def c_q137 : Con := ⟨sg_q137, Bool, fun x => M_impl_IsVector x.1, fun r => (r, ())⟩
noncomputable def code_q137 : Code := Tryz.f70.body.getD .skip
noncomputable def body_q137_0 : Code := (loopsIn code_q137).getD 0 .skip
noncomputable def D_q137_0 : LoopD := ⟨⟨mkSlots [(8, false, [.d (.sl .rat)]), (9, false, [.d (.int .i64)]), (10, false, [.d (.int .i64)])] 18 0, []⟩, [], [(.ret, ⟨mkSlots [(2, false, [.d (.bool)])] 18 0, []⟩, []), (.exit 0, ⟨mkSlots [] 18 0, []⟩, [])]⟩
noncomputable def S_q137_0_w (x : Tys D_q137_0.head.ks) : Option (OutT D_q137_0.outs) := @whileO ((List Rt) × Int × Int × Unit) ((Bool × Unit) ⊕ (Unit)) S_impl_IsVector_0 x
noncomputable def E_q137 : Env := ⟨layD, [(73, c_q58)], [(4, mkLM D_q137_0 S_q137_0_w)], []⟩
theorem cons_q137 : ConsOk Tryz.prog E_q137.cons := consOk_cons m_q58 (callable_of Tryz.func73 (by kernel_rfl)) (consOk_nil)
theorem S_q137_0_ok (x : Tys D_q137_0.head.ks) : stepL E_q137 D_q137_0 body_q137_0 x = S_impl_IsVector_0 x := by kernel_rfl
theorem loops_q137_0 : loopsIn body_q137_0 = [] := by kernel_rfl
theorem l_q137_0 : LoopOk Tryz.prog (mkLM D_q137_0 S_q137_0_w) body_q137_0 := loop_ok2 mix layD_ok cons_q137 (by kernel_rfl) (loops_mem loops_q137_0 (trivial)) S_q137_0_ok fun _ _ h => h
theorem loops_q137 : loopsIn code_q137 = [body_q137_0] := by kernel_rfl
theorem m_q137 : Meets Tryz.prog 70 c_q137 := meets_of (E := E_q137) (code := code_q137) mix layD_ok cons_q137 Tryz.func70 (by kernel_rfl) sg_q137 (by kernel_rfl) (fun y => y.1) c_q137.out (fun _ => rfl) c_q137.run (fun x => by kernel_rfl) (by kernel_rfl) (loops_mem loops_q137 (⟨⟨_, by kernel_rfl, l_q137_0⟩, trivial⟩))
noncomputable def sg_q138 : Sig := ⟨[(true, [.d (.int .i64), .d (.int .i64), .d (.sl .rat)]), (false, [.d (.sl .rat)])], [], true, [(false, [.dp 0]), (false, [.d (.bool)])], [(0, .deep .rat)]⟩
noncomputable def c_q138 : Con := ⟨sg_q138, List Rt × Bool, fun x => M_impl_applied (⟨x.1, x.2.1, x.2.2.1⟩ : Mx) x.2.2.2.1, fun r => (r.2, r.1, ())⟩
noncomputable def code_q138 : Code := Tryz.f79.body.getD .skip
noncomputable def body_q138_0 : Code := (loopsIn code_q138).getD 0 .skip
noncomputable def D_q138_0 : LoopD := ⟨⟨mkSlots [(1, false, [.d (.sl .rat)]), (2, false, [.lp 128 0]), (6, false, [.dp 1728]), (9, false, [.d (.int .i64)]), (10, false, [.d (.int .i64)])] 26 0, [(128, .box [.d (.int .i64), .d (.int .i64), .d (.sl .rat)]), (1728, .deep .rat)]⟩, [(.slotD 6 0, 1728, .rat)], [(.exit 0, ⟨mkSlots [(6, false, [.dp 1728])] 26 0, [(1728, .deep .rat)]⟩, [(.slotD 6 0, 1728, .rat)])]⟩
noncomputable def S_q138_0_w (x : Tys D_q138_0.head.ks) : Option (OutT D_q138_0.outs) := @whileO ((List Rt) × Int × Int × Int × Int × (List Rt) × (List Rt) × Unit) ((List Rt) × Unit) S_impl_applied_0 x
noncomputable def E_q138 : Env := ⟨layD, [(122, c_q114), (89, c_q115), (123, c_q118)], [(3, mkLM D_q138_0 S_q138_0_w)], []⟩
theorem cons_q138 : ConsOk Tryz.prog E_q138.cons := consOk_cons m_q114 (callable_of Tryz.func122 (by kernel_rfl)) (consOk_cons m_q115 (callable_of Tryz.func89 (by kernel_rfl)) (consOk_cons m_q118 (callable_of Tryz.func123 (by kernel_rfl)) (consOk_nil)))
theorem S_q138_0_ok (x : Tys D_q138_0.head.ks) : stepL E_q138 D_q138_0 body_q138_0 x = S_impl_applied_0 x := by kernel_rfl
theorem loops_q138_0 : loopsIn body_q138_0 = [] := by kernel_rfl
theorem l_q138_0 : LoopOk Tryz.prog (mkLM D_q138_0 S_q138_0_w) body_q138_0 := loop_ok2 mix layD_ok cons_q138 (by kernel_rfl) (loops_mem loops_q138_0 (trivial)) S_q138_0_ok fun _ _ h => h
theorem loops_q138 : loopsIn code_q138 = [body_q138_0] := by kernel_rfl
theorem m_q138 : Meets Tryz.prog 79 c_q138 := meets_of (E := E_q138) (code := code_q138) mix layD_ok cons_q138 Tryz.func79 (by kernel_rfl) sg_q138 (by kernel_rfl) (fun y => (y.2.1, y.1)) c_q138.out (fun _ => rfl) c_q138.run (fun x => by kernel_rfl) (by kernel_rfl) (loops_mem loops_q138 (⟨⟨_, by kernel_rfl, l_q138_0⟩, trivial⟩))
noncomputable def sg_q139 : Sig := ⟨[(true, [.d (.int .i64), .d (.int .i64), .d (.sl .rat)]), (false, [.d (.sl .rat)])], [], true, [(false, [.dp 0]), (false, [.d (.bool)])], [(0, .deep .rat)]⟩
noncomputable def c_q139 : Con := ⟨sg_q139, List Rt × Bool, fun x => M_impl_ApplyMatrix (⟨x.1, x.2.1, x.2.2.1⟩ : Mx) x.2.2.2.1, fun r => (r.2, r.1, ())⟩
noncomputable def code_q139 : Code := Tryz.f23.body.getD .skip
noncomputable def E_q139 : Env := ⟨layD, [(64, c_q59), (70, c_q137), (79, c_q138)], [], []⟩
theorem cons_q139 : ConsOk Tryz.prog E_q139.cons := consOk_cons m_q59 (callable_of Tryz.func64 (by kernel_rfl)) (consOk_cons m_q137 (callable_of Tryz.func70 (by kernel_rfl)) (consOk_cons m_q138 (callable_of Tryz.func79 (by kernel_rfl)) (consOk_nil)))
theorem loops_q139 : loopsIn code_q139 = [] := by kernel_rfl
theorem m_q139 : Meets Tryz.prog 23 c_q139 := meets_of (E := E_q139) (code := code_q139) mix layD_ok cons_q139 Tryz.func23 (by kernel_rfl) sg_q139 (by kernel_rfl) (fun y => (y.2.1, y.1)) c_q139.out (fun _ => rfl) c_q139.run (fun x => by kernel_rfl) (by kernel_rfl) (loops_mem loops_q139 (trivial))
noncomputable def sg_q140 : Sig := ⟨[(true, [.d (.bool), .own 1, .own 2])], [(1, .arr false .int), (2, .arr false .int)], true, [(true, [.d (.bool), .own 0, .own 1]), (false, [.d (.bool)])], [(0, .arr false .int), (1, .arr false .int)]⟩
noncomputable def c_q140 : Con := ⟨sg_q140, Rt × Bool, fun x => M_impl_given_c (⟨x.1, x.2.1, x.2.2.1⟩ : Rt), fun r => (r.1.neg, r.2, r.1.mag, r.1.den, ())⟩
noncomputable def code_q140 : Code := Tryz.f69.body.getD .skip
noncomputable def E_q140 : Env := ⟨layD, [(86, c_q84)], [], []⟩
theorem cons_q140 : ConsOk Tryz.prog E_q140.cons := consOk_cons m_q84 (callable_of Tryz.func86 (by kernel_rfl)) (consOk_nil)
theorem loops_q140 : loopsIn code_q140 = [] := by kernel_rfl
theorem m_q140 : Meets Tryz.prog 69 c_q140 := meets_of (E := E_q140) (code := code_q140) mix layD_ok cons_q140 Tryz.func69 (by kernel_rfl) sg_q140 (by kernel_rfl) (fun y => ((⟨y.1, y.2.2.1, y.2.2.2.1⟩ : Rt), y.2.1)) c_q140.out (fun _ => rfl) c_q140.run (fun x => by kernel_rfl) (by kernel_rfl) (loops_mem loops_q140 (trivial))
noncomputable def sg_q141 : Sig := ⟨[(true, [.d (.int .i64), .d (.int .i64), .d (.sl .rat)]), (false, [.d (.sl .rat)])], [], true, [(true, [.d (.bool), .own 0, .own 1]), (false, [.d (.bool)])], [(0, .arr false .int), (1, .arr false .int)]⟩
noncomputable def c_q141 : Con := ⟨sg_q141, Rt × Bool, fun x => M_impl_QuadraticForm (⟨x.1, x.2.1, x.2.2.1⟩ : Mx) x.2.2.2.1, fun r => (r.1.neg, r.2, r.1.mag, r.1.den, ())⟩
noncomputable def code_q141 : Code := Tryz.f30.body.getD .skip
noncomputable def E_q141 : Env := ⟨layD, [(23, c_q139), (89, c_q115), (69, c_q140)], [], []⟩
theorem cons_q141 : ConsOk Tryz.prog E_q141.cons := consOk_cons m_q139 (callable_of Tryz.func23 (by kernel_rfl)) (consOk_cons m_q115 (callable_of Tryz.func89 (by kernel_rfl)) (consOk_cons m_q140 (callable_of Tryz.func69 (by kernel_rfl)) (consOk_nil)))
theorem loops_q141 : loopsIn code_q141 = [] := by kernel_rfl
theorem m_q141 : Meets Tryz.prog 30 c_q141 := meets_of (E := E_q141) (code := code_q141) mix layD_ok cons_q141 Tryz.func30 (by kernel_rfl) sg_q141 (by kernel_rfl) (fun y => ((⟨y.1, y.2.2.1, y.2.2.2.1⟩ : Rt), y.2.1)) c_q141.out (fun _ => rfl) c_q141.run (fun x => by kernel_rfl) (by kernel_rfl) (loops_mem loops_q141 (trivial))
noncomputable def sg_q142 : Sig := ⟨[(false, [.d (.sl .int)]), (false, [.d (.int .i64)])], [], false, [(false, [.d (.bool)])], []⟩
noncomputable def c_q142 : Con := ⟨sg_q142, Bool, fun x => M_impl_ascendingTo x.1 x.2.1, fun r => (r, ())⟩
noncomputable def code_q142 : Code := Tryz.f90.body.getD .skip
noncomputable def body_q142_0 : Code := (loopsIn code_q142).getD 0 .skip
noncomputable def D_q142_0 : LoopD := ⟨⟨mkSlots [(0, false, [.d (.sl .int)]), (1, false, [.d (.int .i64)]), (7, false, [.d (.sl .int)]), (8, false, [.d (.int .i64)]), (9, false, [.d (.int .i64)])] 35 0, []⟩, [], [(.ret, ⟨mkSlots [(4, false, [.d (.bool)])] 35 0, []⟩, []), (.exit 0, ⟨mkSlots [] 35 0, []⟩, [])]⟩
noncomputable def S_q142_0_w (x : Tys D_q142_0.head.ks) : Option (OutT D_q142_0.outs) := @whileO ((List Int) × Int × (List Int) × Int × Int × Unit) ((Bool × Unit) ⊕ (Unit)) S_impl_ascendingTo_0 x
noncomputable def E_q142 : Env := ⟨layD, [], [(2, mkLM D_q142_0 S_q142_0_w)], []⟩
theorem cons_q142 : ConsOk Tryz.prog E_q142.cons := consOk_nil
theorem S_q142_0_ok (x : Tys D_q142_0.head.ks) : stepL E_q142 D_q142_0 body_q142_0 x = S_impl_ascendingTo_0 x := by kernel_rfl
theorem loops_q142_0 : loopsIn body_q142_0 = [] := by kernel_rfl
theorem l_q142_0 : LoopOk Tryz.prog (mkLM D_q142_0 S_q142_0_w) body_q142_0 := loop_ok2 mix layD_ok cons_q142 (by kernel_rfl) (loops_mem loops_q142_0 (trivial)) S_q142_0_ok fun _ _ h => h
theorem loops_q142 : loopsIn code_q142 = [body_q142_0] := by kernel_rfl
theorem m_q142 : Meets Tryz.prog 90 c_q142 := meets_of (E := E_q142) (code := code_q142) mix layD_ok cons_q142 Tryz.func90 (by kernel_rfl) sg_q142 (by kernel_rfl) (fun y => y.1) c_q142.out (fun _ => rfl) c_q142.run (fun x => by kernel_rfl) (by kernel_rfl) (loops_mem loops_q142 (⟨⟨_, by kernel_rfl, l_q142_0⟩, trivial⟩))
noncomputable def sg_q143 : Sig := ⟨[(false, [.d (.int .i64)]), (false, [.d (.int .i64)]), (false, [.sp [.int .i64, .int .i64, .sl .rat]]), (false, [.sp [.sl .int]]), (false, [.sp [.sl .int]])], [], false, [(true, [.d (.bool), .own 0, .own 1])], [(0, .arr false .int), (1, .arr false .int)]⟩
noncomputable def c_q143 : Con := ⟨sg_q143, Rt, fun x => M_impl_part_c1 x.1 x.2.1 (⟨x.2.2.1, x.2.2.2.1, x.2.2.2.2.1⟩ : Mx) x.2.2.2.2.2.1 x.2.2.2.2.2.2.1, fun r => (r.neg, r.mag, r.den, ())⟩
noncomputable def code_q143 : Code := Tryz.f145.body.getD .skip
noncomputable def E_q143 : Env := ⟨layD, [(72, c_q60), (84, c_q61)], [], [(1, [(0, []), (1, []), (2, []), (3, []), (4, []), (5, []), (6, []), (7, []), (8, []), (9, [0, 4, 8, 3, 7, 1, 2, 5, 6]), (10, [9, 0, 4, 8, 3, 7, 1, 2, 5, 6]), (11, [10, 0, 1, 2, 3, 4, 5, 6, 7, 8, 9])])]⟩
theorem cons_q143 : ConsOk Tryz.prog E_q143.cons := consOk_cons m_q60 (callable_of Tryz.func72 (by kernel_rfl)) (consOk_cons m_q61 (callable_of Tryz.func84 (by kernel_rfl)) (consOk_nil))
theorem loops_q143 : loopsIn code_q143 = [] := by kernel_rfl
theorem m_q143 : Meets Tryz.prog 145 c_q143 := meets_of (E := E_q143) (code := code_q143) mix layD_ok cons_q143 Tryz.func145 (by kernel_rfl) sg_q143 (by kernel_rfl) (fun y => (⟨y.1, y.2.1, y.2.2.1⟩ : Rt)) c_q143.out (fun _ => rfl) c_q143.run (fun x => by kernel_rfl) (by kernel_rfl) (loops_mem loops_q143 (trivial))
noncomputable def sg_q147 : Sig := ⟨[(false, [.d (.int .i64)]), (false, [.d (.int .i64)]), (false, [.fn 145 [[.int .i64, .int .i64, .sl .rat], [.sl .int], [.sl .int]]])], [], false, [(true, [.d (.int .i64), .d (.int .i64), .own 0])], [(0, .arr false .rat)]⟩
noncomputable def c_q147 : Con := ⟨sg_q147, Mx, fun x => M_impl_built__impl_part_c1 x.1 x.2.1 (⟨x.2.2.1, x.2.2.2.1, x.2.2.2.2.1⟩ : Mx) x.2.2.2.2.2.1 x.2.2.2.2.2.2.1, fun r => (r.rows, r.cols, r.cells, ())⟩
noncomputable def code_q147 : Code := Tryz.f76.body.getD .skip
noncomputable def body_q147_0 : Code := (loopsIn code_q147).getD 0 .skip
noncomputable def body_q147_1 : Code := (loopsIn body_q147_0).getD 0 .skip
noncomputable def D_q147_0 : LoopD := ⟨⟨mkSlots [(1, false, [.d (.int .i64)]), (2, false, [.fn 145 [[.int .i64, .int .i64, .sl .rat], [.sl .int], [.sl .int]]]), (6, false, [.lp 384 0]), (7, false, [.lp 448 0]), (13, false, [.d (.int .i64)]), (14, false, [.d (.int .i64)])] 33 0, [(384, .box [.d (.int .i64), .d (.int .i64), .d (.sl .rat)]), (448, .box [.d (.int .i64), .d (.int .i64), .own 2176]), (2176, .arr false .rat)]⟩, [(.box 448 2, 2176, .rat)], [(.exit 0, ⟨mkSlots [(6, false, [.lp 384 0]), (7, false, [.lp 448 0])] 33 0, [(384, .box [.d (.int .i64), .d (.int .i64), .d (.sl .rat)]), (448, .box [.d (.int .i64), .d (.int .i64), .own 2176]), (2176, .arr false .rat)]⟩, [(.box 448 2, 2176, .rat)])]⟩
noncomputable def D_q147_1 : LoopD := ⟨⟨mkSlots [(1, false, [.d (.int .i64)]), (2, false, [.fn 145 [[.int .i64, .int .i64, .sl .rat], [.sl .int], [.sl .int]]]), (6, false, [.lp 384 0]), (7, false, [.lp 448 0]), (8, false, [.d (.int .i64)]), (13, false, [.d (.int .i64)]), (14, false, [.d (.int .i64)]), (17, false, [.d (.int .i64)]), (18, false, [.d (.int .i64)])] 33 0, [(384, .box [.d (.int .i64), .d (.int .i64), .d (.sl .rat)]), (448, .box [.d (.int .i64), .d (.int .i64), .own 2176]), (2176, .arr false .rat)]⟩, [(.box 448 2, 2176, .rat)], [(.exit 2, ⟨mkSlots [(1, false, [.d (.int .i64)]), (2, false, [.fn 145 [[.int .i64, .int .i64, .sl .rat], [.sl .int], [.sl .int]]]), (6, false, [.lp 384 0]), (7, false, [.lp 448 0]), (13, false, [.d (.int .i64)]), (14, false, [.d (.int .i64)])] 33 0, [(384, .box [.d (.int .i64), .d (.int .i64), .d (.sl .rat)]), (448, .box [.d (.int .i64), .d (.int .i64), .own 2176]), (2176, .arr false .rat)]⟩, [(.box 448 2, 2176, .rat)])]⟩
noncomputable def S_q147_0_w (x : Tys D_q147_0.head.ks) : Option (OutT D_q147_0.outs) := @whileO (Int × Int × Int × (List Rt) × (List Int) × (List Int) × Int × Int × Int × Int × (List Rt) × Int × Int × (List Rt) × Unit) (Int × Int × (List Rt) × Int × Int × (List Rt) × Unit) S_impl_built__impl_part_c1_0 x
noncomputable def S_q147_1_w (x : Tys D_q147_1.head.ks) : Option (OutT D_q147_1.outs) := @whileO (Int × Int × Int × (List Rt) × (List Int) × (List Int) × Int × Int × Int × Int × Int × Int × Int × (List Rt) × Int × Int × (List Rt) × Unit) (Int × Int × Int × (List Rt) × (List Int) × (List Int) × Int × Int × Int × Int × (List Rt) × Int × Int × (List Rt) × Unit) S_impl_built__impl_part_c1_1 x
noncomputable def E_q147 : Env := ⟨lay, [(145, c_q143)], [(3, mkLM D_q147_0 S_q147_0_w), (6, mkLM D_q147_1 S_q147_1_w)], [(8, [(0, []), (1, []), (2, []), (3, []), (4, []), (5, [2, 3, 4]), (6, [5, 2, 3, 4]), (7, [1, 6, 5, 0, 2, 3, 4]), (8, []), (9, [8, 7, 0, 1, 2, 3, 4, 5, 6])])]⟩
theorem cons_q147 : ConsOk Tryz.prog E_q147.cons := consOk_cons m_q143 (callable_of Tryz.func145 (by kernel_rfl)) (consOk_nil)
theorem S_q147_1_ok (x : Tys D_q147_1.head.ks) : stepL E_q147 D_q147_1 body_q147_1 x = S_impl_built__impl_part_c1_1 x := by kernel_rfl
theorem loops_q147_1 : loopsIn body_q147_1 = [] := by kernel_rfl
theorem l_q147_1 : LoopOk Tryz.prog (mkLM D_q147_1 S_q147_1_w) body_q147_1 := loop_ok2 mix lay_ok cons_q147 (by kernel_rfl) (loops_mem loops_q147_1 (trivial)) S_q147_1_ok fun _ _ h => h
theorem S_q147_0_ok (x : Tys D_q147_0.head.ks) : stepL E_q147 D_q147_0 body_q147_0 x = S_impl_built__impl_part_c1_0 x := by kernel_rfl
theorem loops_q147_0 : loopsIn body_q147_0 = [body_q147_1] := by kernel_rfl
theorem l_q147_0 : LoopOk Tryz.prog (mkLM D_q147_0 S_q147_0_w) body_q147_0 := loop_ok2 mix lay_ok cons_q147 (by kernel_rfl) (loops_mem loops_q147_0 (⟨⟨_, by kernel_rfl, l_q147_1⟩, trivial⟩)) S_q147_0_ok fun _ _ h => h
theorem loops_q147 : loopsIn code_q147 = [body_q147_0] := by kernel_rfl
theorem m_q147 : Meets Tryz.prog 76 c_q147 := meets_of (E := E_q147) (code := code_q147) mix lay_ok cons_q147 Tryz.func76 (by kernel_rfl) sg_q147 (by kernel_rfl) (fun y => (⟨y.1, y.2.1, y.2.2.1⟩ : Mx)) c_q147.out (fun _ => rfl) c_q147.run (fun x => by kernel_rfl) (by kernel_rfl) (loops_mem loops_q147 (⟨⟨_, by kernel_rfl, l_q147_0⟩, trivial⟩))
noncomputable def sg_q148 : Sig := ⟨[(true, [.d (.int .i64), .d (.int .i64), .d (.sl .rat)]), (false, [.d (.sl .int)]), (false, [.d (.sl .int)])], [], false, [(true, [.d (.int .i64), .d (.int .i64), .own 0])], [(0, .arr false .rat)]⟩
noncomputable def c_q148 : Con := ⟨sg_q148, Mx, fun x => M_impl_part (⟨x.1, x.2.1, x.2.2.1⟩ : Mx) x.2.2.2.1 x.2.2.2.2.1, fun r => (r.rows, r.cols, r.cells, ())⟩
noncomputable def code_q148 : Code := Tryz.f91.body.getD .skip
noncomputable def E_q148 : Env := ⟨lay, [(76, c_q147)], [], []⟩
theorem cons_q148 : ConsOk Tryz.prog E_q148.cons := consOk_cons m_q147 (callable_of Tryz.func76 (by kernel_rfl)) (consOk_nil)
theorem loops_q148 : loopsIn code_q148 = [] := by kernel_rfl
theorem m_q148 : Meets Tryz.prog 91 c_q148 := meets_of (E := E_q148) (code := code_q148) mix lay_ok cons_q148 Tryz.func91 (by kernel_rfl) sg_q148 (by kernel_rfl) (fun y => (⟨y.1, y.2.1, y.2.2.1⟩ : Mx)) c_q148.out (fun _ => rfl) c_q148.run (fun x => by kernel_rfl) (by kernel_rfl) (loops_mem loops_q148 (trivial))
noncomputable def sg_q149 : Sig := ⟨[(true, [.d (.int .i64), .d (.int .i64), .d (.sl .rat)]), (false, [.d (.sl .int)])], [], true, [(true, [.d (.int .i64), .d (.int .i64), .own 0]), (false, [.d (.bool)])], [(0, .arr false .rat)]⟩
noncomputable def c_q149 : Con := ⟨sg_q149, Mx × Bool, fun x => M_impl_Submatrix (⟨x.1, x.2.1, x.2.2.1⟩ : Mx) x.2.2.2.1, fun r => (r.1.rows, r.1.cols, r.2, r.1.cells, ())⟩
noncomputable def code_q149 : Code := Tryz.f31.body.getD .skip
noncomputable def E_q149 : Env := ⟨lay, [(64, c_q59), (90, c_q142), (91, c_q148)], [], []⟩
theorem cons_q149 : ConsOk Tryz.prog E_q149.cons := consOk_cons m_q59 (callable_of Tryz.func64 (by kernel_rfl)) (consOk_cons m_q142 (callable_of Tryz.func90 (by kernel_rfl)) (consOk_cons m_q148 (callable_of Tryz.func91 (by kernel_rfl)) (consOk_nil)))
theorem loops_q149 : loopsIn code_q149 = [] := by kernel_rfl
theorem m_q149 : Meets Tryz.prog 31 c_q149 := meets_of (E := E_q149) (code := code_q149) mix lay_ok cons_q149 Tryz.func31 (by kernel_rfl) sg_q149 (by kernel_rfl) (fun y => ((⟨y.1, y.2.1, y.2.2.2.1⟩ : Mx), y.2.2.1)) c_q149.out (fun _ => rfl) c_q149.run (fun x => by kernel_rfl) (by kernel_rfl) (loops_mem loops_q149 (trivial))
noncomputable def sg_q152 : Sig := ⟨[(false, [.d (.int .i64)])], [], false, [(false, [.own 0])], [(0, .arr false .rat)]⟩
noncomputable def c_q152 : Con := ⟨sg_q152, List Rt, fun x => M_impl_ZeroVector x.1, fun r => (r, ())⟩
noncomputable def code_q152 : Code := Tryz.f32.body.getD .skip
noncomputable def body_q152_0 : Code := (loopsIn code_q152).getD 0 .skip
noncomputable def D_q152_0 : LoopD := ⟨⟨mkSlots [(3, false, [.own 1280]), (10, false, [.d (.int .i64)]), (11, false, [.d (.int .i64)])] 19 0, [(1280, .arr false .rat)]⟩, [(.slot 3 0, 1280, .rat)], [(.exit 0, ⟨mkSlots [(3, false, [.own 1280])] 19 0, [(1280, .arr false .rat)]⟩, [(.slot 3 0, 1280, .rat)])]⟩
noncomputable def S_q152_0_w (x : Tys D_q152_0.head.ks) : Option (OutT D_q152_0.outs) := @whileO (Int × Int × (List Rt) × Unit) ((List Rt) × Unit) S_impl_ZeroVector_0 x
noncomputable def E_q152 : Env := ⟨lay, [(67, c_q78)], [(5, mkLM D_q152_0 S_q152_0_w)], []⟩
theorem cons_q152 : ConsOk Tryz.prog E_q152.cons := consOk_cons m_q78 (callable_of Tryz.func67 (by kernel_rfl)) (consOk_nil)
theorem S_q152_0_ok (x : Tys D_q152_0.head.ks) : stepL E_q152 D_q152_0 body_q152_0 x = S_impl_ZeroVector_0 x := by kernel_rfl
theorem loops_q152_0 : loopsIn body_q152_0 = [] := by kernel_rfl
theorem l_q152_0 : LoopOk Tryz.prog (mkLM D_q152_0 S_q152_0_w) body_q152_0 := loop_ok2 mix lay_ok cons_q152 (by kernel_rfl) (loops_mem loops_q152_0 (trivial)) S_q152_0_ok fun _ _ h => h
theorem loops_q152 : loopsIn code_q152 = [body_q152_0] := by kernel_rfl
theorem m_q152 : Meets Tryz.prog 32 c_q152 := meets_of (E := E_q152) (code := code_q152) mix lay_ok cons_q152 Tryz.func32 (by kernel_rfl) sg_q152 (by kernel_rfl) (fun y => y.1) c_q152.out (fun _ => rfl) c_q152.run (fun x => by kernel_rfl) (by kernel_rfl) (loops_mem loops_q152 (⟨⟨_, by kernel_rfl, l_q152_0⟩, trivial⟩))
noncomputable def sg_q153 : Sig := ⟨[(false, [.d (.sl .byte)])], [], false, [(false, [.d (.bool)])], []⟩
noncomputable def c_q153 : Con := ⟨sg_q153, Bool, fun x => M_laws_FnFactors x.1, fun r => (r, ())⟩
noncomputable def code_q153 : Code := Tryz.f4.body.getD .skip
noncomputable def body_q153_0 : Code := (loopsIn code_q153).getD 0 .skip
noncomputable def D_q153_0 : LoopD := ⟨⟨mkSlots [(0, false, [.d (.sl .byte)]), (3, false, [.lp 192 0]), (4, false, [.lp 256 0]), (7, false, [.lp 448 0]), (58, false, [.d (.sl .rat)]), (59, false, [.d (.int .i64)]), (60, false, [.d (.int .i64)])] 131 0, [(192, .box [.d (.int .i64), .d (.int .i64), .own 8448]), (256, .box [.d (.int .i64), .d (.int .i64), .d (.sl .rat)]), (448, .box [.d (.int .i64), .d (.int .i64), .own 8512]), (8448, .arr false .rat), (8512, .arr false .rat)]⟩, [], [(.ret, ⟨mkSlots [(2, false, [.d (.bool)])] 131 0, []⟩, []), (.exit 0, ⟨mkSlots [(0, false, [.d (.sl .byte)]), (3, false, [.lp 192 0]), (4, false, [.lp 256 0]), (7, false, [.lp 448 0])] 131 0, [(192, .box [.d (.int .i64), .d (.int .i64), .own 8448]), (256, .box [.d (.int .i64), .d (.int .i64), .d (.sl .rat)]), (448, .box [.d (.int .i64), .d (.int .i64), .own 8512]), (8448, .arr false .rat), (8512, .arr false .rat)]⟩, [])]⟩
noncomputable def S_q153_0_w (x : Tys D_q153_0.head.ks) : Option (OutT D_q153_0.outs) := @whileO ((List Int) × (List Rt) × Int × Int × Int × Int × Int × Int × (List Rt) × Int × Int × (List Rt) × (List Rt) × Unit) ((Bool × Unit) ⊕ ((List Int) × Int × Int × Int × Int × (List Rt) × Int × Int × (List Rt) × (List Rt) × Unit)) S_laws_FnFactors_0 x
noncomputable def E_q153 : Env := ⟨lay, [(25, c_q107), (26, c_q97), (27, c_q108), (28, c_q69), (21, c_q112), (17, c_q113), (22, c_q127), (29, c_q132), (13, c_q136), (30, c_q141), (31, c_q149), (19, c_q68), (32, c_q152), (24, c_q67)], [(11, mkLM D_q153_0 S_q153_0_w)], [(18, [(0, []), (1, []), (2, [1]), (3, [0, 2, 1]), (4, []), (5, []), (6, []), (7, []), (8, [7, 5, 3, 0, 1, 2, 4]), (9, [6, 8, 0, 1, 2, 3, 4, 5, 7])])]⟩
theorem cons_q153 : ConsOk Tryz.prog E_q153.cons := consOk_cons m_q107 (callable_of Tryz.func25 (by kernel_rfl)) (consOk_cons m_q97 (callable_of Tryz.func26 (by kernel_rfl)) (consOk_cons m_q108 (callable_of Tryz.func27 (by kernel_rfl)) (consOk_cons m_q69 (callable_of Tryz.func28 (by kernel_rfl)) (consOk_cons m_q112 (callable_of Tryz.func21 (by kernel_rfl)) (consOk_cons m_q113 (callable_of Tryz.func17 (by kernel_rfl)) (consOk_cons m_q127 (callable_of Tryz.func22 (by kernel_rfl)) (consOk_cons m_q132 (callable_of Tryz.func29 (by kernel_rfl)) (consOk_cons m_q136 (callable_of Tryz.func13 (by kernel_rfl)) (consOk_cons m_q141 (callable_of Tryz.func30 (by kernel_rfl)) (consOk_cons m_q149 (callable_of Tryz.func31 (by kernel_rfl)) (consOk_cons m_q68 (callable_of Tryz.func19 (by kernel_rfl)) (consOk_cons m_q152 (callable_of Tryz.func32 (by kernel_rfl)) (consOk_cons m_q67 (callable_of Tryz.func24 (by kernel_rfl)) (consOk_nil))))))))))))))
theorem S_q153_0_ok (x : Tys D_q153_0.head.ks) : stepL E_q153 D_q153_0 body_q153_0 x = S_laws_FnFactors_0 x := by kernel_rfl
theorem loops_q153_0 : loopsIn body_q153_0 = [] := by kernel_rfl
theorem l_q153_0 : LoopOk Tryz.prog (mkLM D_q153_0 S_q153_0_w) body_q153_0 := loop_ok2 mix lay_ok cons_q153 (by kernel_rfl) (loops_mem loops_q153_0 (trivial)) S_q153_0_ok fun _ _ h => h
theorem loops_q153 : loopsIn code_q153 = [body_q153_0] := by kernel_rfl
theorem m_q153 : Meets Tryz.prog 4 c_q153 := meets_of (E := E_q153) (code := code_q153) mix lay_ok cons_q153 Tryz.func4 (by kernel_rfl) sg_q153 (by kernel_rfl) (fun y => y.1) c_q153.out (fun _ => rfl) c_q153.run (fun x => by kernel_rfl) (by kernel_rfl) (loops_mem loops_q153 (⟨⟨_, by kernel_rfl, l_q153_0⟩, trivial⟩))
end Go.Proofs.YtgimphipdnieaaaGreat.WFactors
