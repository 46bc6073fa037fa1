/-
  Own work: part 8 of the texts that the proof of the given statement leans on.
-/
import Derived.Test.YtdkfcdncamimmaaGreatDoorProg
import Derived.Test.YtdkfcdncamimmaaGreatDoorZFormatBookCardP00
open Go Go.Di Go.Proofs
namespace Go.Proofs.YtdkfcdncamimmaaGreatDoor.WFormatBook
def FX : Nat → Option (Array Value → Prop) := Fo.FX
noncomputable def lay : List (TypeId × TI) := [
  (3, ⟨false, [.d (.int .i64 0)], [], none, some (.int .i64), false, false⟩),
  (4, ⟨false, [.d (.bool false)], [], none, some .bool, false, false⟩),
  (5, ⟨false, [.d (.int .u8 0)], [], none, some (.int .u8), false, false⟩),
  (9, ⟨false, [.d (.str ByteArray.empty)], [], none, some .str, false, false⟩),
  (22, ⟨false, [.mt], [], some .sta, none, false, false⟩),
  (24, ⟨true, [.d (.bool false), .mt], [(0, 1, false), (1, 1, false)], none, none, true, false⟩),
  (26, ⟨false, [.mt], [], some .int, none, false, false⟩),
  (28, ⟨true, [.d (.bool false), .mt], [(0, 1, false), (1, 1, false)], none, none, true, false⟩),
  (30, ⟨true, [.d (.bool false), .mt, .mt], [(0, 2, true), (2, 1, false)], none, none, true, false⟩),
  (32, ⟨true, [.d (.int .i64 0), .d (.int .i64 0), .d (.int .i64 0), .d (.bool false), .mt, .mt, .d (.bool false), .mt, .mt], [(0, 1, false), (1, 1, false), (2, 1, false), (3, 3, true), (6, 3, true)], none, none, true, false⟩),
  (35, ⟨false, [.mt], [], some .sta, none, false, false⟩),
  (37, ⟨true, [.d (.bool false), .mt], [(0, 1, false), (1, 1, false)], none, none, true, false⟩),
  (44, ⟨false, [.mt], [], some .byte, none, false, false⟩),
  (45, ⟨false, [.mt], [], some .obs, none, false, false⟩),
  (49, ⟨true, [.d (.bool false), .mt, .mt], [(0, 2, true), (2, 1, false)], none, none, true, false⟩),
  (62, ⟨true, [.d (.bool false), .mt], [(0, 1, false), (1, 1, false)], none, none, true, false⟩),
  (64, ⟨true, [.d (.bool false), .mt, .mt], [(0, 2, true), (2, 1, false)], none, none, true, false⟩),
  (66, ⟨true, [.d (.int .i64 0), .d (.int .i64 0), .d (.int .i64 0), .d (.bool false), .mt, .mt, .d (.bool false), .mt, .mt], [(0, 1, false), (1, 1, false), (2, 1, false), (3, 3, true), (6, 3, true)], none, none, true, false⟩),
  (70, ⟨false, [.mt], [], some .obs, none, false, false⟩),
  (72, ⟨true, [.d (.bool false), .mt, .mt], [(0, 2, true), (2, 1, false)], none, none, true, false⟩),
  (77, ⟨false, [.mt], [], some .str, none, false, false⟩),
  (96, ⟨true, [.d (.str ByteArray.empty), .d (.bool false), .mt, .mt, .d (.bool false), .mt, .mt, .d (.bool false)], [(0, 1, false), (1, 3, true), (4, 3, true), (7, 1, false)], none, none, true, false⟩),
  (112, ⟨true, [.d (.str ByteArray.empty), .d (.bool false), .mt, .mt, .d (.bool false), .mt, .mt, .d (.bool false)], [(0, 1, false), (1, 3, true), (4, 3, true), (7, 1, false)], none, none, true, false⟩)]
noncomputable def layD : List (TypeId × TI) := [
  (3, ⟨false, [.d (.int .i64 0)], [], none, some (.int .i64), false, false⟩),
  (4, ⟨false, [.d (.bool false)], [], none, some .bool, false, false⟩),
  (5, ⟨false, [.d (.int .u8 0)], [], none, some (.int .u8), false, false⟩),
  (9, ⟨false, [.d (.str ByteArray.empty)], [], none, some .str, false, false⟩),
  (22, ⟨false, [.mt], [], some .sta, none, false, true⟩),
  (24, ⟨true, [.d (.bool false), .mt], [(0, 1, false), (1, 1, false)], none, none, true, false⟩),
  (26, ⟨false, [.mt], [], some .int, none, false, false⟩),
  (28, ⟨true, [.d (.bool false), .mt], [(0, 1, false), (1, 1, false)], none, none, true, false⟩),
  (30, ⟨true, [.d (.bool false), .mt, .mt], [(0, 2, true), (2, 1, false)], none, none, true, false⟩),
  (32, ⟨true, [.d (.int .i64 0), .d (.int .i64 0), .d (.int .i64 0), .d (.bool false), .mt, .mt, .d (.bool false), .mt, .mt], [(0, 1, false), (1, 1, false), (2, 1, false), (3, 3, true), (6, 3, true)], none, none, true, false⟩),
  (35, ⟨false, [.mt], [], some .sta, none, false, true⟩),
  (37, ⟨true, [.d (.bool false), .mt], [(0, 1, false), (1, 1, false)], none, none, true, false⟩),
  (44, ⟨false, [.mt], [], some .byte, none, false, false⟩),
  (45, ⟨false, [.mt], [], some .obs, none, false, true⟩),
  (49, ⟨true, [.d (.bool false), .mt, .mt], [(0, 2, true), (2, 1, false)], none, none, true, false⟩),
  (62, ⟨true, [.d (.bool false), .mt], [(0, 1, false), (1, 1, false)], none, none, true, false⟩),
  (64, ⟨true, [.d (.bool false), .mt, .mt], [(0, 2, true), (2, 1, false)], none, none, true, false⟩),
  (66, ⟨true, [.d (.int .i64 0), .d (.int .i64 0), .d (.int .i64 0), .d (.bool false), .mt, .mt, .d (.bool false), .mt, .mt], [(0, 1, false), (1, 1, false), (2, 1, false), (3, 3, true), (6, 3, true)], none, none, true, false⟩),
  (70, ⟨false, [.mt], [], some .obs, none, false, true⟩),
  (72, ⟨true, [.d (.bool false), .mt, .mt], [(0, 2, true), (2, 1, false)], none, none, true, false⟩),
  (77, ⟨false, [.mt], [], some .str, none, false, false⟩),
  (96, ⟨true, [.d (.str ByteArray.empty), .d (.bool false), .mt, .mt, .d (.bool false), .mt, .mt, .d (.bool false)], [(0, 1, false), (1, 3, true), (4, 3, true), (7, 1, false)], none, none, true, false⟩),
  (112, ⟨true, [.d (.str ByteArray.empty), .d (.bool false), .mt, .mt, .d (.bool false), .mt, .mt, .d (.bool false)], [(0, 1, false), (1, 3, true), (4, 3, true), (7, 1, false)], none, none, true, false⟩)]
theorem lay_ok : LayOk Tryz.prog lay := layOk_ok (by kernel_rfl)
theorem layD_ok : LayOk Tryz.prog layD := layOk_ok (by kernel_rfl)
theorem mix : Tryz.prog.follows .mixedOrders = true := by kernel_rfl
noncomputable def sg_q1 : Sig := ⟨[(false, [.d (.sl .int)]), (false, [.d (.int .i64)])], [], false, [(false, [.d (.int .i64)])], []⟩
noncomputable def c_q1 : Con := ⟨sg_q1, Int, fun x => M_laws_szIntS x.1 x.2.1, fun r => (r, ())⟩
noncomputable def code_q1 : Code := Tryz.f121.body.getD .skip
noncomputable def E_q1 : Env := ⟨layD, [], [], []⟩
theorem cons_q1 : ConsOk Tryz.prog FX E_q1.cons := consOk_nil
theorem loops_q1 : loopsIn code_q1 = [] := by kernel_rfl
theorem m_q1 : Meets Tryz.prog FX 121 c_q1 := meets_of (E := E_q1) (code := code_q1) mix layD_ok cons_q1 Tryz.func121 (by kernel_rfl) sg_q1 (by kernel_rfl) (fun y => y.1) c_q1.out (fun _ => rfl) c_q1.run (fun x => by kernel_rfl) (by kernel_rfl) (loops_mem loops_q1 (trivial))
noncomputable def sg_q2 : Sig := ⟨[(true, [.d (.bool), .d (.sl .int)]), (false, [.d (.int .i64)])], [], false, [(false, [.d (.int .i64)])], []⟩
noncomputable def c_q2 : Con := ⟨sg_q2, Int, fun x => M_laws_szBigInt (⟨x.1, x.2.1⟩ : Bg) x.2.2.1, fun r => (r, ())⟩
noncomputable def code_q2 : Code := Tryz.f120.body.getD .skip
noncomputable def E_q2 : Env := ⟨layD, [(121, c_q1)], [], []⟩
theorem cons_q2 : ConsOk Tryz.prog FX E_q2.cons := consOk_cons m_q1 (callable_of Tryz.func121 (by kernel_rfl)) (consOk_nil)
theorem loops_q2 : loopsIn code_q2 = [] := by kernel_rfl
theorem m_q2 : Meets Tryz.prog FX 120 c_q2 := meets_of (E := E_q2) (code := code_q2) mix layD_ok cons_q2 Tryz.func120 (by kernel_rfl) sg_q2 (by kernel_rfl) (fun y => y.1) c_q2.out (fun _ => rfl) c_q2.run (fun x => by kernel_rfl) (by kernel_rfl) (loops_mem loops_q2 (trivial))
noncomputable def sg_q3 : Sig := ⟨[(true, [.d (.bool), .d (.sl .int), .d (.sl .int)]), (false, [.d (.int .i64)])], [], false, [(false, [.d (.int .i64)])], []⟩
noncomputable def c_q3 : Con := ⟨sg_q3, Int, fun x => M_laws_szRat (⟨x.1, x.2.1, x.2.2.1⟩ : Rt) x.2.2.2.1, fun r => (r, ())⟩
noncomputable def code_q3 : Code := Tryz.f75.body.getD .skip
noncomputable def E_q3 : Env := ⟨layD, [(120, c_q2), (121, c_q1)], [], []⟩
theorem cons_q3 : ConsOk Tryz.prog FX E_q3.cons := consOk_cons m_q2 (callable_of Tryz.func120 (by kernel_rfl)) (consOk_cons m_q1 (callable_of Tryz.func121 (by kernel_rfl)) (consOk_nil))
theorem loops_q3 : loopsIn code_q3 = [] := by kernel_rfl
theorem m_q3 : Meets Tryz.prog FX 75 c_q3 := meets_of (E := E_q3) (code := code_q3) mix layD_ok cons_q3 Tryz.func75 (by kernel_rfl) sg_q3 (by kernel_rfl) (fun y => y.1) c_q3.out (fun _ => rfl) c_q3.run (fun x => by kernel_rfl) (by kernel_rfl) (loops_mem loops_q3 (trivial))
noncomputable def sg_q4 : Sig := ⟨[(true, [.d (.str), .d (.bool), .d (.sl .int), .d (.sl .int), .d (.bool), .d (.sl .int), .d (.sl .int), .d (.bool)]), (false, [.d (.int .i64)])], [], false, [(false, [.d (.int .i64)])], []⟩
noncomputable def c_q4 : Con := ⟨sg_q4, Int, fun x => M_laws_szStation (⟨x.1, (⟨x.2.1, x.2.2.1, x.2.2.2.1⟩ : Rt), (⟨x.2.2.2.2.1, x.2.2.2.2.2.1, x.2.2.2.2.2.2.1⟩ : Rt), x.2.2.2.2.2.2.2.1⟩ : Sta) x.2.2.2.2.2.2.2.2.1, fun r => (r, ())⟩
noncomputable def code_q4 : Code := Tryz.f81.body.getD .skip
noncomputable def E_q4 : Env := ⟨layD, [(75, c_q3)], [], []⟩
theorem cons_q4 : ConsOk Tryz.prog FX E_q4.cons := consOk_cons m_q3 (callable_of Tryz.func75 (by kernel_rfl)) (consOk_nil)
theorem loops_q4 : loopsIn code_q4 = [] := by kernel_rfl
theorem m_q4 : Meets Tryz.prog FX 81 c_q4 := meets_of (E := E_q4) (code := code_q4) mix layD_ok cons_q4 Tryz.func81 (by kernel_rfl) sg_q4 (by kernel_rfl) (fun y => y.1) c_q4.out (fun _ => rfl) c_q4.run (fun x => by kernel_rfl) (by kernel_rfl) (loops_mem loops_q4 (trivial))
noncomputable def sg_q5 : Sig := ⟨[(false, [.d (.sl .sta)]), (false, [.d (.int .i64)])], [], false, [(false, [.d (.int .i64)])], []⟩
noncomputable def c_q5 : Con := ⟨sg_q5, Int, fun x => M_laws_szStationS x.1 x.2.1, fun r => (r, ())⟩
noncomputable def code_q5 : Code := Tryz.f36.body.getD .skip
noncomputable def body_q5_0 : Code := (loopsIn code_q5).getD 0 .skip
noncomputable def D_q5_0 : LoopD := ⟨⟨mkSlots [(0, false, [.d (.sl .sta)]), (1, false, [.d (.int .i64)]), (5, false, [.d (.int .i64)])] 27 0, []⟩, [], [(.ret, ⟨mkSlots [(4, false, [.d (.int .i64)])] 27 0, []⟩, []), (.exit 0, ⟨mkSlots [(1, false, [.d (.int .i64)])] 27 0, []⟩, [])]⟩
noncomputable def S_q5_0_w (x : Tys D_q5_0.head.ks) : Option (OutT D_q5_0.outs) := @whileO ((List Sta) × Int × Int × Unit) ((Int × Unit) ⊕ (Int × Unit)) S_laws_szStationS_0 x
noncomputable def E_q5 : Env := ⟨layD, [(81, c_q4)], [(5, mkLM D_q5_0 S_q5_0_w)], []⟩
theorem cons_q5 : ConsOk Tryz.prog FX E_q5.cons := consOk_cons m_q4 (callable_of Tryz.func81 (by kernel_rfl)) (consOk_nil)
theorem S_q5_0_ok (x : Tys D_q5_0.head.ks) : stepL E_q5 D_q5_0 body_q5_0 x = S_laws_szStationS_0 x := by kernel_rfl
theorem loops_q5_0 : loopsIn body_q5_0 = [] := by kernel_rfl
theorem l_q5_0 : LoopOk Tryz.prog FX (mkLM D_q5_0 S_q5_0_w) body_q5_0 := loop_ok2 mix layD_ok cons_q5 (by kernel_rfl) (loops_mem loops_q5_0 (trivial)) S_q5_0_ok fun _ _ h => h
theorem loops_q5 : loopsIn code_q5 = [body_q5_0] := by kernel_rfl
theorem m_q5 : Meets Tryz.prog FX 36 c_q5 := meets_of (E := E_q5) (code := code_q5) mix layD_ok cons_q5 Tryz.func36 (by kernel_rfl) sg_q5 (by kernel_rfl) (fun y => y.1) c_q5.out (fun _ => rfl) c_q5.run (fun x => by kernel_rfl) (by kernel_rfl) (loops_mem loops_q5 (⟨⟨_, by kernel_rfl, l_q5_0⟩, trivial⟩))
noncomputable def sg_q6 : Sig := ⟨[(true, [.d (.bool), .d (.sl .sta)]), (false, [.d (.int .i64)])], [], false, [(false, [.d (.int .i64)])], []⟩
noncomputable def c_q6 : Con := ⟨sg_q6, Int, fun x => M_laws_szNetwork (⟨x.1, x.2.1⟩ : Net) x.2.2.1, fun r => (r, ())⟩
noncomputable def code_q6 : Code := Tryz.f8.body.getD .skip
noncomputable def E_q6 : Env := ⟨layD, [(36, c_q5)], [], []⟩
theorem cons_q6 : ConsOk Tryz.prog FX E_q6.cons := consOk_cons m_q5 (callable_of Tryz.func36 (by kernel_rfl)) (consOk_nil)
theorem loops_q6 : loopsIn code_q6 = [] := by kernel_rfl
theorem m_q6 : Meets Tryz.prog FX 8 c_q6 := meets_of (E := E_q6) (code := code_q6) mix layD_ok cons_q6 Tryz.func8 (by kernel_rfl) sg_q6 (by kernel_rfl) (fun y => y.1) c_q6.out (fun _ => rfl) c_q6.run (fun x => by kernel_rfl) (by kernel_rfl) (loops_mem loops_q6 (trivial))
noncomputable def sg_q7 : Sig := ⟨[(true, [.d (.int .i64), .d (.int .i64), .d (.int .i64), .d (.bool), .d (.sl .int), .d (.sl .int), .d (.bool), .d (.sl .int), .d (.sl .int)]), (false, [.d (.int .i64)])], [], false, [(false, [.d (.int .i64)])], []⟩
noncomputable def c_q7 : Con := ⟨sg_q7, Int, fun x => M_laws_szObservation (⟨x.1, x.2.1, x.2.2.1, (⟨x.2.2.2.1, x.2.2.2.2.1, x.2.2.2.2.2.1⟩ : Rt), (⟨x.2.2.2.2.2.2.1, x.2.2.2.2.2.2.2.1, x.2.2.2.2.2.2.2.2.1⟩ : Rt)⟩ : Obs) x.2.2.2.2.2.2.2.2.2.1, fun r => (r, ())⟩
noncomputable def code_q7 : Code := Tryz.f30.body.getD .skip
noncomputable def E_q7 : Env := ⟨layD, [(75, c_q3)], [], []⟩
theorem cons_q7 : ConsOk Tryz.prog FX E_q7.cons := consOk_cons m_q3 (callable_of Tryz.func75 (by kernel_rfl)) (consOk_nil)
theorem loops_q7 : loopsIn code_q7 = [] := by kernel_rfl
theorem m_q7 : Meets Tryz.prog FX 30 c_q7 := meets_of (E := E_q7) (code := code_q7) mix layD_ok cons_q7 Tryz.func30 (by kernel_rfl) sg_q7 (by kernel_rfl) (fun y => y.1) c_q7.out (fun _ => rfl) c_q7.run (fun x => by kernel_rfl) (by kernel_rfl) (loops_mem loops_q7 (trivial))
noncomputable def sg_q8 : Sig := ⟨[(false, [.d (.sl .obs)]), (false, [.d (.int .i64)])], [], false, [(false, [.d (.int .i64)])], []⟩
noncomputable def c_q8 : Con := ⟨sg_q8, Int, fun x => M_laws_szObservationS x.1 x.2.1, fun r => (r, ())⟩
noncomputable def code_q8 : Code := Tryz.f77.body.getD .skip
noncomputable def body_q8_0 : Code := (loopsIn code_q8).getD 0 .skip
noncomputable def D_q8_0 : LoopD := ⟨⟨mkSlots [(0, false, [.d (.sl .obs)]), (1, false, [.d (.int .i64)]), (5, false, [.d (.int .i64)])] 27 0, []⟩, [], [(.ret, ⟨mkSlots [(4, false, [.d (.int .i64)])] 27 0, []⟩, []), (.exit 0, ⟨mkSlots [(1, false, [.d (.int .i64)])] 27 0, []⟩, [])]⟩
noncomputable def S_q8_0_w (x : Tys D_q8_0.head.ks) : Option (OutT D_q8_0.outs) := @whileO ((List Obs) × Int × Int × Unit) ((Int × Unit) ⊕ (Int × Unit)) S_laws_szObservationS_0 x
noncomputable def E_q8 : Env := ⟨layD, [(30, c_q7)], [(5, mkLM D_q8_0 S_q8_0_w)], []⟩
theorem cons_q8 : ConsOk Tryz.prog FX E_q8.cons := consOk_cons m_q7 (callable_of Tryz.func30 (by kernel_rfl)) (consOk_nil)
theorem S_q8_0_ok (x : Tys D_q8_0.head.ks) : stepL E_q8 D_q8_0 body_q8_0 x = S_laws_szObservationS_0 x := by kernel_rfl
theorem loops_q8_0 : loopsIn body_q8_0 = [] := by kernel_rfl
theorem l_q8_0 : LoopOk Tryz.prog FX (mkLM D_q8_0 S_q8_0_w) body_q8_0 := loop_ok2 mix layD_ok cons_q8 (by kernel_rfl) (loops_mem loops_q8_0 (trivial)) S_q8_0_ok fun _ _ h => h
theorem loops_q8 : loopsIn code_q8 = [body_q8_0] := by kernel_rfl
theorem m_q8 : Meets Tryz.prog FX 77 c_q8 := meets_of (E := E_q8) (code := code_q8) mix layD_ok cons_q8 Tryz.func77 (by kernel_rfl) sg_q8 (by kernel_rfl) (fun y => y.1) c_q8.out (fun _ => rfl) c_q8.run (fun x => by kernel_rfl) (by kernel_rfl) (loops_mem loops_q8 (⟨⟨_, by kernel_rfl, l_q8_0⟩, trivial⟩))
noncomputable def sg_q9 : Sig := ⟨[(true, [.d (.bool), .d (.sl .sta), .d (.sl .obs)]), (false, [.d (.int .i64)])], [], false, [(false, [.d (.int .i64)])], []⟩
noncomputable def c_q9 : Con := ⟨sg_q9, Int, fun x => M_laws_szBook (⟨x.1, x.2.1, x.2.2.1⟩ : Bk) x.2.2.2.1, fun r => (r, ())⟩
noncomputable def code_q9 : Code := Tryz.f33.body.getD .skip
noncomputable def E_q9 : Env := ⟨layD, [(8, c_q6), (77, c_q8)], [], []⟩
theorem cons_q9 : ConsOk Tryz.prog FX E_q9.cons := consOk_cons m_q6 (callable_of Tryz.func8 (by kernel_rfl)) (consOk_cons m_q8 (callable_of Tryz.func77 (by kernel_rfl)) (consOk_nil))
theorem loops_q9 : loopsIn code_q9 = [] := by kernel_rfl
theorem m_q9 : Meets Tryz.prog FX 33 c_q9 := meets_of (E := E_q9) (code := code_q9) mix layD_ok cons_q9 Tryz.func33 (by kernel_rfl) sg_q9 (by kernel_rfl) (fun y => y.1) c_q9.out (fun _ => rfl) c_q9.run (fun x => by kernel_rfl) (by kernel_rfl) (loops_mem loops_q9 (trivial))
noncomputable def sg_q10 : Sig := ⟨[(false, [.d (.sl .int)])], [], false, [(false, [.own 0])], [(0, .arr false .int)]⟩
noncomputable def c_q10 : Con := ⟨sg_q10, List Int, fun x => M_laws_toIntS x.1, fun r => (r, ())⟩
noncomputable def code_q10 : Code := Tryz.f123.body.getD .skip
noncomputable def body_q10_0 : Code := (loopsIn code_q10).getD 0 .skip
noncomputable def D_q10_0 : LoopD := ⟨⟨mkSlots [(0, false, [.d (.sl .int)]), (3, false, [.own 1472]), (4, false, [.d (.int .i64)])] 22 0, [(1472, .arr false .int)]⟩, [], [(.exit 0, ⟨mkSlots [(3, false, [.own 1472])] 22 0, [(1472, .arr false .int)]⟩, [])]⟩
noncomputable def S_q10_0_w (x : Tys D_q10_0.head.ks) : Option (OutT D_q10_0.outs) := @whileO ((List Int) × Int × (List Int) × Unit) ((List Int) × Unit) S_laws_toIntS_0 x
noncomputable def E_q10 : Env := ⟨layD, [], [(3, mkLM D_q10_0 S_q10_0_w)], []⟩
theorem cons_q10 : ConsOk Tryz.prog FX E_q10.cons := consOk_nil
theorem S_q10_0_ok (x : Tys D_q10_0.head.ks) : stepL E_q10 D_q10_0 body_q10_0 x = S_laws_toIntS_0 x := by kernel_rfl
theorem loops_q10_0 : loopsIn body_q10_0 = [] := by kernel_rfl
theorem l_q10_0 : LoopOk Tryz.prog FX (mkLM D_q10_0 S_q10_0_w) body_q10_0 := loop_ok2 mix layD_ok cons_q10 (by kernel_rfl) (loops_mem loops_q10_0 (trivial)) S_q10_0_ok fun _ _ h => h
theorem loops_q10 : loopsIn code_q10 = [body_q10_0] := by kernel_rfl
theorem m_q10 : Meets Tryz.prog FX 123 c_q10 := meets_of (E := E_q10) (code := code_q10) mix layD_ok cons_q10 Tryz.func123 (by kernel_rfl) sg_q10 (by kernel_rfl) (fun y => y.1) c_q10.out (fun _ => rfl) c_q10.run (fun x => by kernel_rfl) (by kernel_rfl) (loops_mem loops_q10 (⟨⟨_, by kernel_rfl, l_q10_0⟩, trivial⟩))
noncomputable def sg_q11 : Sig := ⟨[(true, [.d (.bool), .d (.sl .int)])], [], false, [(true, [.d (.bool), .own 0])], [(0, .arr false .int)]⟩
noncomputable def c_q11 : Con := ⟨sg_q11, Bg, fun x => M_laws_toBigInt (⟨x.1, x.2.1⟩ : Bg), fun r => (r.neg, r.mag, ())⟩
noncomputable def code_q11 : Code := Tryz.f122.body.getD .skip
noncomputable def E_q11 : Env := ⟨layD, [(123, c_q10)], [], []⟩
theorem cons_q11 : ConsOk Tryz.prog FX E_q11.cons := consOk_cons m_q10 (callable_of Tryz.func123 (by kernel_rfl)) (consOk_nil)
theorem loops_q11 : loopsIn code_q11 = [] := by kernel_rfl
theorem m_q11 : Meets Tryz.prog FX 122 c_q11 := meets_of (E := E_q11) (code := code_q11) mix layD_ok cons_q11 Tryz.func122 (by kernel_rfl) sg_q11 (by kernel_rfl) (fun y => (⟨y.1, y.2.1⟩ : Bg)) c_q11.out (fun _ => rfl) c_q11.run (fun x => by kernel_rfl) (by kernel_rfl) (loops_mem loops_q11 (trivial))
noncomputable def sg_q12 : Sig := ⟨[(true, [.d (.bool), .d (.sl .int), .d (.sl .int)])], [], false, [(true, [.d (.bool), .own 0, .own 1])], [(0, .arr false .int), (1, .arr false .int)]⟩
noncomputable def c_q12 : Con := ⟨sg_q12, Rt, fun x => M_laws_toRat (⟨x.1, x.2.1, x.2.2.1⟩ : Rt), fun r => (r.neg, r.mag, r.den, ())⟩
noncomputable def code_q12 : Code := Tryz.f76.body.getD .skip
noncomputable def E_q12 : Env := ⟨layD, [(122, c_q11), (123, c_q10)], [], []⟩
theorem cons_q12 : ConsOk Tryz.prog FX E_q12.cons := consOk_cons m_q11 (callable_of Tryz.func122 (by kernel_rfl)) (consOk_cons m_q10 (callable_of Tryz.func123 (by kernel_rfl)) (consOk_nil))
theorem loops_q12 : loopsIn code_q12 = [] := by kernel_rfl
theorem m_q12 : Meets Tryz.prog FX 76 c_q12 := meets_of (E := E_q12) (code := code_q12) mix layD_ok cons_q12 Tryz.func76 (by kernel_rfl) sg_q12 (by kernel_rfl) (fun y => (⟨y.1, y.2.1, y.2.2.1⟩ : Rt)) c_q12.out (fun _ => rfl) c_q12.run (fun x => by kernel_rfl) (by kernel_rfl) (loops_mem loops_q12 (trivial))
noncomputable def sg_q13 : Sig := ⟨[(true, [.d (.str), .d (.bool), .d (.sl .int), .d (.sl .int), .d (.bool), .d (.sl .int), .d (.sl .int), .d (.bool)])], [], false, [(true, [.d (.str), .d (.bool), .own 0, .own 1, .d (.bool), .own 2, .own 3, .d (.bool)])], [(0, .arr false .int), (1, .arr false .int), (2, .arr false .int), (3, .arr false .int)]⟩
noncomputable def c_q13 : Con := ⟨sg_q13, Sta, fun x => M_laws_toStation (⟨x.1, (⟨x.2.1, x.2.2.1, x.2.2.2.1⟩ : Rt), (⟨x.2.2.2.2.1, x.2.2.2.2.2.1, x.2.2.2.2.2.2.1⟩ : Rt), x.2.2.2.2.2.2.2.1⟩ : Sta), fun r => (r.name, r.x.neg, r.y.neg, r.fixed, r.x.mag, r.x.den, r.y.mag, r.y.den, ())⟩
noncomputable def code_q13 : Code := Tryz.f88.body.getD .skip
noncomputable def E_q13 : Env := ⟨layD, [(76, c_q12)], [], []⟩
theorem cons_q13 : ConsOk Tryz.prog FX E_q13.cons := consOk_cons m_q12 (callable_of Tryz.func76 (by kernel_rfl)) (consOk_nil)
theorem loops_q13 : loopsIn code_q13 = [] := by kernel_rfl
theorem m_q13 : Meets Tryz.prog FX 88 c_q13 := meets_of (E := E_q13) (code := code_q13) mix layD_ok cons_q13 Tryz.func88 (by kernel_rfl) sg_q13 (by kernel_rfl) (fun y => (⟨y.1, (⟨y.2.1, y.2.2.2.2.1, y.2.2.2.2.2.1⟩ : Rt), (⟨y.2.2.1, y.2.2.2.2.2.2.1, y.2.2.2.2.2.2.2.1⟩ : Rt), y.2.2.2.1⟩ : Sta)) c_q13.out (fun _ => rfl) c_q13.run (fun x => by kernel_rfl) (by kernel_rfl) (loops_mem loops_q13 (trivial))
noncomputable def sg_q14 : Sig := ⟨[(false, [.d (.sl .sta)])], [], false, [(false, [.dp 0])], [(0, .deep .sta)]⟩
noncomputable def c_q14 : Con := ⟨sg_q14, List Sta, fun x => M_laws_toStationS x.1, fun r => (r, ())⟩
noncomputable def code_q14 : Code := Tryz.f44.body.getD .skip
noncomputable def body_q14_0 : Code := (loopsIn code_q14).getD 0 .skip
noncomputable def D_q14_0 : LoopD := ⟨⟨mkSlots [(0, false, [.d (.sl .sta)]), (3, false, [.dp 1536]), (4, false, [.d (.int .i64)])] 23 0, [(1536, .deep .sta)]⟩, [], [(.exit 0, ⟨mkSlots [(3, false, [.dp 1536])] 23 0, [(1536, .deep .sta)]⟩, [])]⟩
noncomputable def S_q14_0_w (x : Tys D_q14_0.head.ks) : Option (OutT D_q14_0.outs) := @whileO ((List Sta) × Int × (List Sta) × Unit) ((List Sta) × Unit) S_laws_toStationS_0 x
noncomputable def E_q14 : Env := ⟨layD, [(88, c_q13)], [(3, mkLM D_q14_0 S_q14_0_w)], []⟩
theorem cons_q14 : ConsOk Tryz.prog FX E_q14.cons := consOk_cons m_q13 (callable_of Tryz.func88 (by kernel_rfl)) (consOk_nil)
theorem S_q14_0_ok (x : Tys D_q14_0.head.ks) : stepL E_q14 D_q14_0 body_q14_0 x = S_laws_toStationS_0 x := by kernel_rfl
theorem loops_q14_0 : loopsIn body_q14_0 = [] := by kernel_rfl
theorem l_q14_0 : LoopOk Tryz.prog FX (mkLM D_q14_0 S_q14_0_w) body_q14_0 := loop_ok2 mix layD_ok cons_q14 (by kernel_rfl) (loops_mem loops_q14_0 (trivial)) S_q14_0_ok fun _ _ h => h
theorem loops_q14 : loopsIn code_q14 = [body_q14_0] := by kernel_rfl
theorem m_q14 : Meets Tryz.prog FX 44 c_q14 := meets_of (E := E_q14) (code := code_q14) mix layD_ok cons_q14 Tryz.func44 (by kernel_rfl) sg_q14 (by kernel_rfl) (fun y => y.1) c_q14.out (fun _ => rfl) c_q14.run (fun x => by kernel_rfl) (by kernel_rfl) (loops_mem loops_q14 (⟨⟨_, by kernel_rfl, l_q14_0⟩, trivial⟩))
noncomputable def sg_q15 : Sig := ⟨[(true, [.d (.bool), .d (.sl .sta)])], [], false, [(true, [.d (.bool), .dp 0])], [(0, .deep .sta)]⟩
noncomputable def c_q15 : Con := ⟨sg_q15, Net, fun x => M_laws_toNetwork (⟨x.1, x.2.1⟩ : Net), fun r => (r.plane, r.stations, ())⟩
noncomputable def code_q15 : Code := Tryz.f10.body.getD .skip
noncomputable def E_q15 : Env := ⟨layD, [(44, c_q14)], [], []⟩
theorem cons_q15 : ConsOk Tryz.prog FX E_q15.cons := consOk_cons m_q14 (callable_of Tryz.func44 (by kernel_rfl)) (consOk_nil)
theorem loops_q15 : loopsIn code_q15 = [] := by kernel_rfl
theorem m_q15 : Meets Tryz.prog FX 10 c_q15 := meets_of (E := E_q15) (code := code_q15) mix layD_ok cons_q15 Tryz.func10 (by kernel_rfl) sg_q15 (by kernel_rfl) (fun y => (⟨y.1, y.2.1⟩ : Net)) c_q15.out (fun _ => rfl) c_q15.run (fun x => by kernel_rfl) (by kernel_rfl) (loops_mem loops_q15 (trivial))
noncomputable def sg_q16 : Sig := ⟨[(true, [.d (.int .i64), .d (.int .i64), .d (.int .i64), .d (.bool), .d (.sl .int), .d (.sl .int), .d (.bool), .d (.sl .int), .d (.sl .int)])], [], false, [(true, [.d (.int .i64), .d (.int .i64), .d (.int .i64), .d (.bool), .own 0, .own 1, .d (.bool), .own 2, .own 3])], [(0, .arr false .int), (1, .arr false .int), (2, .arr false .int), (3, .arr false .int)]⟩
noncomputable def c_q16 : Con := ⟨sg_q16, Obs, fun x => M_laws_toObservation (⟨x.1, x.2.1, x.2.2.1, (⟨x.2.2.2.1, x.2.2.2.2.1, x.2.2.2.2.2.1⟩ : Rt), (⟨x.2.2.2.2.2.2.1, x.2.2.2.2.2.2.2.1, x.2.2.2.2.2.2.2.2.1⟩ : Rt)⟩ : Obs), fun r => (r.kind, r.frm, r.to, r.value.neg, r.variance.neg, r.value.mag, r.value.den, r.variance.mag, r.variance.den, ())⟩
noncomputable def code_q16 : Code := Tryz.f32.body.getD .skip
noncomputable def E_q16 : Env := ⟨layD, [(76, c_q12)], [], []⟩
theorem cons_q16 : ConsOk Tryz.prog FX E_q16.cons := consOk_cons m_q12 (callable_of Tryz.func76 (by kernel_rfl)) (consOk_nil)
theorem loops_q16 : loopsIn code_q16 = [] := by kernel_rfl
theorem m_q16 : Meets Tryz.prog FX 32 c_q16 := meets_of (E := E_q16) (code := code_q16) mix layD_ok cons_q16 Tryz.func32 (by kernel_rfl) sg_q16 (by kernel_rfl) (fun y => (⟨y.1, y.2.1, y.2.2.1, (⟨y.2.2.2.1, y.2.2.2.2.2.1, y.2.2.2.2.2.2.1⟩ : Rt), (⟨y.2.2.2.2.1, y.2.2.2.2.2.2.2.1, y.2.2.2.2.2.2.2.2.1⟩ : Rt)⟩ : Obs)) c_q16.out (fun _ => rfl) c_q16.run (fun x => by kernel_rfl) (by kernel_rfl) (loops_mem loops_q16 (trivial))
noncomputable def sg_q17 : Sig := ⟨[(false, [.d (.sl .obs)])], [], false, [(false, [.dp 0])], [(0, .deep .obs)]⟩
noncomputable def c_q17 : Con := ⟨sg_q17, List Obs, fun x => M_laws_toObservationS x.1, fun r => (r, ())⟩
noncomputable def code_q17 : Code := Tryz.f80.body.getD .skip
noncomputable def body_q17_0 : Code := (loopsIn code_q17).getD 0 .skip
noncomputable def D_q17_0 : LoopD := ⟨⟨mkSlots [(0, false, [.d (.sl .obs)]), (3, false, [.dp 1536]), (4, false, [.d (.int .i64)])] 23 0, [(1536, .deep .obs)]⟩, [], [(.exit 0, ⟨mkSlots [(3, false, [.dp 1536])] 23 0, [(1536, .deep .obs)]⟩, [])]⟩
noncomputable def S_q17_0_w (x : Tys D_q17_0.head.ks) : Option (OutT D_q17_0.outs) := @whileO ((List Obs) × Int × (List Obs) × Unit) ((List Obs) × Unit) S_laws_toObservationS_0 x
noncomputable def E_q17 : Env := ⟨layD, [(32, c_q16)], [(3, mkLM D_q17_0 S_q17_0_w)], []⟩
theorem cons_q17 : ConsOk Tryz.prog FX E_q17.cons := consOk_cons m_q16 (callable_of Tryz.func32 (by kernel_rfl)) (consOk_nil)
theorem S_q17_0_ok (x : Tys D_q17_0.head.ks) : stepL E_q17 D_q17_0 body_q17_0 x = S_laws_toObservationS_0 x := by kernel_rfl
theorem loops_q17_0 : loopsIn body_q17_0 = [] := by kernel_rfl
theorem l_q17_0 : LoopOk Tryz.prog FX (mkLM D_q17_0 S_q17_0_w) body_q17_0 := loop_ok2 mix layD_ok cons_q17 (by kernel_rfl) (loops_mem loops_q17_0 (trivial)) S_q17_0_ok fun _ _ h => h
theorem loops_q17 : loopsIn code_q17 = [body_q17_0] := by kernel_rfl
theorem m_q17 : Meets Tryz.prog FX 80 c_q17 := meets_of (E := E_q17) (code := code_q17) mix layD_ok cons_q17 Tryz.func80 (by kernel_rfl) sg_q17 (by kernel_rfl) (fun y => y.1) c_q17.out (fun _ => rfl) c_q17.run (fun x => by kernel_rfl) (by kernel_rfl) (loops_mem loops_q17 (⟨⟨_, by kernel_rfl, l_q17_0⟩, trivial⟩))
noncomputable def sg_q18 : Sig := ⟨[(true, [.d (.bool), .d (.sl .sta), .d (.sl .obs)])], [], false, [(true, [.d (.bool), .dp 0, .dp 1])], [(0, .deep .sta), (1, .deep .obs)]⟩
noncomputable def c_q18 : Con := ⟨sg_q18, Bk, fun x => M_laws_toBook (⟨x.1, x.2.1, x.2.2.1⟩ : Bk), fun r => (r.plane, r.stations, r.obs, ())⟩
noncomputable def code_q18 : Code := Tryz.f35.body.getD .skip
noncomputable def E_q18 : Env := ⟨layD, [(10, c_q15), (80, c_q17)], [], []⟩
theorem cons_q18 : ConsOk Tryz.prog FX E_q18.cons := consOk_cons m_q15 (callable_of Tryz.func10 (by kernel_rfl)) (consOk_cons m_q17 (callable_of Tryz.func80 (by kernel_rfl)) (consOk_nil))
theorem loops_q18 : loopsIn code_q18 = [] := by kernel_rfl
theorem m_q18 : Meets Tryz.prog FX 35 c_q18 := meets_of (E := E_q18) (code := code_q18) mix layD_ok cons_q18 Tryz.func35 (by kernel_rfl) sg_q18 (by kernel_rfl) (fun y => (⟨y.1, y.2.1, y.2.2.1⟩ : Bk)) c_q18.out (fun _ => rfl) c_q18.run (fun x => by kernel_rfl) (by kernel_rfl) (loops_mem loops_q18 (trivial))
noncomputable def sg_q19 : Sig := ⟨[(false, [.d (.int .i64)]), (false, [.d (.int .i64)]), (false, [.d (.int .i64)])], [], false, [(false, [.d (.bool)])], []⟩
noncomputable def c_q19 : Con := ⟨sg_q19, Bool, fun x => M_spec_l01In x.1 x.2.1 x.2.2.1, fun r => (r, ())⟩
noncomputable def code_q19 : Code := Tryz.f83.body.getD .skip
noncomputable def E_q19 : Env := ⟨layD, [], [], []⟩
theorem cons_q19 : ConsOk Tryz.prog FX E_q19.cons := consOk_nil
theorem loops_q19 : loopsIn code_q19 = [] := by kernel_rfl
theorem m_q19 : Meets Tryz.prog FX 83 c_q19 := meets_of (E := E_q19) (code := code_q19) mix layD_ok cons_q19 Tryz.func83 (by kernel_rfl) sg_q19 (by kernel_rfl) (fun y => y.1) c_q19.out (fun _ => rfl) c_q19.run (fun x => by kernel_rfl) (by kernel_rfl) (loops_mem loops_q19 (trivial))
noncomputable def sg_q20 : Sig := ⟨[(false, [.d (.str)])], [], false, [(false, [.d (.bool)])], []⟩
noncomputable def c_q20 : Con := ⟨sg_q20, Bool, fun x => M_spec_IsName x.1, fun r => (r, ())⟩
noncomputable def code_q20 : Code := Tryz.f167.body.getD .skip
noncomputable def body_q20_0 : Code := (loopsIn code_q20).getD 0 .skip
noncomputable def D_q20_0 : LoopD := ⟨⟨mkSlots [(0, false, [.d (.str)]), (3, false, [.d (.int .i64)])] 42 0, []⟩, [], [(.ret, ⟨mkSlots [(2, false, [.d (.bool)])] 42 0, []⟩, []), (.exit 0, ⟨mkSlots [(0, false, [.d (.str)])] 42 0, []⟩, [])]⟩
noncomputable def S_q20_0_w (x : Tys D_q20_0.head.ks) : Option (OutT D_q20_0.outs) := @whileO (ByteArray × Int × Unit) ((Bool × Unit) ⊕ (ByteArray × Unit)) S_spec_IsName_0 x
noncomputable def E_q20 : Env := ⟨layD, [(83, c_q19)], [(2, mkLM D_q20_0 S_q20_0_w)], []⟩
theorem cons_q20 : ConsOk Tryz.prog FX E_q20.cons := consOk_cons m_q19 (callable_of Tryz.func83 (by kernel_rfl)) (consOk_nil)
theorem S_q20_0_ok (x : Tys D_q20_0.head.ks) : stepL E_q20 D_q20_0 body_q20_0 x = S_spec_IsName_0 x := by kernel_rfl
theorem loops_q20_0 : loopsIn body_q20_0 = [] := by kernel_rfl
theorem l_q20_0 : LoopOk Tryz.prog FX (mkLM D_q20_0 S_q20_0_w) body_q20_0 := loop_ok2 mix layD_ok cons_q20 (by kernel_rfl) (loops_mem loops_q20_0 (trivial)) S_q20_0_ok fun _ _ h => h
theorem loops_q20 : loopsIn code_q20 = [body_q20_0] := by kernel_rfl
theorem m_q20 : Meets Tryz.prog FX 167 c_q20 := meets_of (E := E_q20) (code := code_q20) mix layD_ok cons_q20 Tryz.func167 (by kernel_rfl) sg_q20 (by kernel_rfl) (fun y => y.1) c_q20.out (fun _ => rfl) c_q20.run (fun x => by kernel_rfl) (by kernel_rfl) (loops_mem loops_q20 (⟨⟨_, by kernel_rfl, l_q20_0⟩, trivial⟩))
noncomputable def sg_q21 : Sig := ⟨[(false, [.d (.sl .int)])], [], false, [(false, [.d (.bool)])], []⟩
noncomputable def c_q21 : Con := ⟨sg_q21, Bool, fun x => M_spec_NatOk x.1, fun r => (r, ())⟩
noncomputable def code_q21 : Code := Tryz.f163.body.getD .skip
noncomputable def body_q21_0 : Code := (loopsIn code_q21).getD 0 .skip
noncomputable def D_q21_0 : LoopD := ⟨⟨mkSlots [(0, false, [.d (.sl .int)]), (5, false, [.d (.sl .int)]), (6, false, [.d (.int .i64)]), (7, false, [.d (.int .i64)])] 32 0, []⟩, [], [(.ret, ⟨mkSlots [(2, false, [.d (.bool)])] 32 0, []⟩, []), (.exit 0, ⟨mkSlots [(0, false, [.d (.sl .int)])] 32 0, []⟩, [])]⟩
noncomputable def S_q21_0_w (x : Tys D_q21_0.head.ks) : Option (OutT D_q21_0.outs) := @whileO ((List Int) × (List Int) × Int × Int × Unit) ((Bool × Unit) ⊕ ((List Int) × Unit)) S_spec_NatOk_0 x
noncomputable def E_q21 : Env := ⟨layD, [(83, c_q19)], [(2, mkLM D_q21_0 S_q21_0_w)], []⟩
theorem cons_q21 : ConsOk Tryz.prog FX E_q21.cons := consOk_cons m_q19 (callable_of Tryz.func83 (by kernel_rfl)) (consOk_nil)
theorem S_q21_0_ok (x : Tys D_q21_0.head.ks) : stepL E_q21 D_q21_0 body_q21_0 x = S_spec_NatOk_0 x := by kernel_rfl
theorem loops_q21_0 : loopsIn body_q21_0 = [] := by kernel_rfl
theorem l_q21_0 : LoopOk Tryz.prog FX (mkLM D_q21_0 S_q21_0_w) body_q21_0 := loop_ok2 mix layD_ok cons_q21 (by kernel_rfl) (loops_mem loops_q21_0 (trivial)) S_q21_0_ok fun _ _ h => h
theorem loops_q21 : loopsIn code_q21 = [body_q21_0] := by kernel_rfl
theorem m_q21 : Meets Tryz.prog FX 163 c_q21 := meets_of (E := E_q21) (code := code_q21) mix layD_ok cons_q21 Tryz.func163 (by kernel_rfl) sg_q21 (by kernel_rfl) (fun y => y.1) c_q21.out (fun _ => rfl) c_q21.run (fun x => by kernel_rfl) (by kernel_rfl) (loops_mem loops_q21 (⟨⟨_, by kernel_rfl, l_q21_0⟩, trivial⟩))
noncomputable def sg_q22 : Sig := ⟨[(true, [.d (.bool), .d (.sl .int)])], [], false, [(false, [.d (.bool)])], []⟩
noncomputable def c_q22 : Con := ⟨sg_q22, Bool, fun x => M_spec_BigIntOk (⟨x.1, x.2.1⟩ : Bg), fun r => (r, ())⟩
noncomputable def code_q22 : Code := Tryz.f162.body.getD .skip
noncomputable def E_q22 : Env := ⟨layD, [(163, c_q21)], [], []⟩
theorem cons_q22 : ConsOk Tryz.prog FX E_q22.cons := consOk_cons m_q21 (callable_of Tryz.func163 (by kernel_rfl)) (consOk_nil)
theorem loops_q22 : loopsIn code_q22 = [] := by kernel_rfl
theorem m_q22 : Meets Tryz.prog FX 162 c_q22 := meets_of (E := E_q22) (code := code_q22) mix layD_ok cons_q22 Tryz.func162 (by kernel_rfl) sg_q22 (by kernel_rfl) (fun y => y.1) c_q22.out (fun _ => rfl) c_q22.run (fun x => by kernel_rfl) (by kernel_rfl) (loops_mem loops_q22 (trivial))
noncomputable def sg_q23 : Sig := ⟨[(false, [.d (.sl .int)]), (false, [.d (.sl .int)])], [], false, [(false, [.d (.int .i64)])], []⟩
noncomputable def c_q23 : Con := ⟨sg_q23, Int, fun x => M_spec_l02Cmp x.1 x.2.1, fun r => (r, ())⟩
noncomputable def code_q23 : Code := Tryz.f209.body.getD .skip
noncomputable def body_q23_0 : Code := (loopsIn code_q23).getD 0 .skip
noncomputable def D_q23_0 : LoopD := ⟨⟨mkSlots [(0, false, [.d (.sl .int)]), (1, false, [.d (.sl .int)]), (5, false, [.d (.int .i64)])] 41 0, []⟩, [], [(.ret, ⟨mkSlots [(4, false, [.d (.int .i64)])] 41 0, []⟩, []), (.exit 0, ⟨mkSlots [] 41 0, []⟩, [])]⟩
noncomputable def S_q23_0_w (x : Tys D_q23_0.head.ks) : Option (OutT D_q23_0.outs) := @whileO ((List Int) × (List Int) × Int × Unit) ((Int × Unit) ⊕ (Unit)) S_spec_l02Cmp_0 x
noncomputable def E_q23 : Env := ⟨layD, [], [(6, mkLM D_q23_0 S_q23_0_w)], [(8, [(0, []), (1, []), (2, []), (3, []), (4, []), (5, []), (6, []), (7, []), (8, [])]), (10, [(0, []), (1, []), (2, []), (3, []), (4, []), (5, []), (6, []), (7, []), (8, [])])]⟩
theorem cons_q23 : ConsOk Tryz.prog FX E_q23.cons := consOk_nil
theorem S_q23_0_ok (x : Tys D_q23_0.head.ks) : stepL E_q23 D_q23_0 body_q23_0 x = S_spec_l02Cmp_0 x := by kernel_rfl
theorem loops_q23_0 : loopsIn body_q23_0 = [] := by kernel_rfl
theorem l_q23_0 : LoopOk Tryz.prog FX (mkLM D_q23_0 S_q23_0_w) body_q23_0 := loop_ok2 mix layD_ok cons_q23 (by kernel_rfl) (loops_mem loops_q23_0 (trivial)) S_q23_0_ok fun _ _ h => h
theorem loops_q23 : loopsIn code_q23 = [body_q23_0] := by kernel_rfl
theorem m_q23 : Meets Tryz.prog FX 209 c_q23 := meets_of (E := E_q23) (code := code_q23) mix layD_ok cons_q23 Tryz.func209 (by kernel_rfl) sg_q23 (by kernel_rfl) (fun y => y.1) c_q23.out (fun _ => rfl) c_q23.run (fun x => by kernel_rfl) (by kernel_rfl) (loops_mem loops_q23 (⟨⟨_, by kernel_rfl, l_q23_0⟩, trivial⟩))
noncomputable def sg_q24 : Sig := ⟨[(false, [.d (.sl .int)])], [], true, [(false, [.d (.int .i64)]), (false, [.d (.bool)])], []⟩
noncomputable def c_q24 : Con := ⟨sg_q24, Int × Bool, fun x => M_spec_NatToInt x.1, fun r => (r.1, r.2, ())⟩
noncomputable def code_q24 : Code := Tryz.f192.body.getD .skip
noncomputable def body_q24_0 : Code := (loopsIn code_q24).getD 0 .skip
noncomputable def D_q24_0 : LoopD := ⟨⟨mkSlots [(0, false, [.d (.sl .int)]), (4, false, [.d (.int .i64)]), (5, false, [.d (.int .i64)])] 30 0, []⟩, [], [(.exit 0, ⟨mkSlots [(4, false, [.d (.int .i64)])] 30 0, []⟩, [])]⟩
noncomputable def S_q24_0_w (x : Tys D_q24_0.head.ks) : Option (OutT D_q24_0.outs) := @whileO ((List Int) × Int × Int × Unit) (Int × Unit) S_spec_NatToInt_0 x
noncomputable def E_q24 : Env := ⟨layD, [(163, c_q21), (209, c_q23)], [(5, mkLM D_q24_0 S_q24_0_w)], []⟩
theorem cons_q24 : ConsOk Tryz.prog FX E_q24.cons := consOk_cons m_q21 (callable_of Tryz.func163 (by kernel_rfl)) (consOk_cons m_q23 (callable_of Tryz.func209 (by kernel_rfl)) (consOk_nil))
theorem S_q24_0_ok (x : Tys D_q24_0.head.ks) : stepL E_q24 D_q24_0 body_q24_0 x = S_spec_NatToInt_0 x := by kernel_rfl
theorem loops_q24_0 : loopsIn body_q24_0 = [] := by kernel_rfl
theorem l_q24_0 : LoopOk Tryz.prog FX (mkLM D_q24_0 S_q24_0_w) body_q24_0 := loop_ok2 mix layD_ok cons_q24 (by kernel_rfl) (loops_mem loops_q24_0 (trivial)) S_q24_0_ok fun _ _ h => h
theorem loops_q24 : loopsIn code_q24 = [body_q24_0] := by kernel_rfl
theorem m_q24 : Meets Tryz.prog FX 192 c_q24 := meets_of (E := E_q24) (code := code_q24) mix layD_ok cons_q24 Tryz.func192 (by kernel_rfl) sg_q24 (by kernel_rfl) (fun y => (y.1, y.2.1)) c_q24.out (fun _ => rfl) c_q24.run (fun x => by kernel_rfl) (by kernel_rfl) (loops_mem loops_q24 (⟨⟨_, by kernel_rfl, l_q24_0⟩, trivial⟩))
noncomputable def sg_q25 : Sig := ⟨[(false, [.d (.int .i64)])], [], false, [(false, [.own 0])], [(0, .arr false .int)]⟩
noncomputable def c_q25 : Con := ⟨sg_q25, List Int, fun x => M_spec_NatOf x.1, fun r => (r, ())⟩
noncomputable def code_q25 : Code := Tryz.f207.body.getD .skip
noncomputable def body_q25_0 : Code := (loopsIn code_q25).getD 0 .skip
noncomputable def D_q25_0 : LoopD := ⟨⟨mkSlots [(0, false, [.d (.int .i64)]), (3, false, [.own 1024])] 15 0, [(1024, .arr false .int)]⟩, [(.slot 3 0, 1024, .int)], [(.exit 0, ⟨mkSlots [(3, false, [.own 1024])] 15 0, [(1024, .arr false .int)]⟩, [(.slot 3 0, 1024, .int)])]⟩
noncomputable def S_q25_0_w (x : Tys D_q25_0.head.ks) : Option (OutT D_q25_0.outs) := @whileO (Int × (List Int) × Unit) ((List Int) × Unit) S_spec_NatOf_0 x
noncomputable def E_q25 : Env := ⟨layD, [], [(2, mkLM D_q25_0 S_q25_0_w)], []⟩
theorem cons_q25 : ConsOk Tryz.prog FX E_q25.cons := consOk_nil
theorem S_q25_0_ok (x : Tys D_q25_0.head.ks) : stepL E_q25 D_q25_0 body_q25_0 x = S_spec_NatOf_0 x := by kernel_rfl
theorem loops_q25_0 : loopsIn body_q25_0 = [] := by kernel_rfl
theorem l_q25_0 : LoopOk Tryz.prog FX (mkLM D_q25_0 S_q25_0_w) body_q25_0 := loop_ok2 mix layD_ok cons_q25 (by kernel_rfl) (loops_mem loops_q25_0 (trivial)) S_q25_0_ok fun _ _ h => h
theorem loops_q25 : loopsIn code_q25 = [body_q25_0] := by kernel_rfl
theorem m_q25 : Meets Tryz.prog FX 207 c_q25 := meets_of (E := E_q25) (code := code_q25) mix layD_ok cons_q25 Tryz.func207 (by kernel_rfl) sg_q25 (by kernel_rfl) (fun y => y.1) c_q25.out (fun _ => rfl) c_q25.run (fun x => by kernel_rfl) (by kernel_rfl) (loops_mem loops_q25 (⟨⟨_, by kernel_rfl, l_q25_0⟩, trivial⟩))
noncomputable def sg_q26 : Sig := ⟨[(false, [.d (.int .i64)]), (false, [.d (.int .i64)])], [], false, [(false, [.own 0])], [(0, .arr false .int)]⟩
noncomputable def c_q26 : Con := ⟨sg_q26, List Int, fun x => M_spec_l02Plain x.1 x.2.1, fun r => (r, ())⟩
noncomputable def code_q26 : Code := Tryz.f193.body.getD .skip
noncomputable def body_q26_0 : Code := (loopsIn code_q26).getD 0 .skip
noncomputable def D_q26_0 : LoopD := ⟨⟨mkSlots [(0, false, [.d (.int .i64)]), (1, false, [.d (.int .i64)])] 15 0, []⟩, [], [(.exit 0, ⟨mkSlots [(0, false, [.d (.int .i64)])] 15 0, []⟩, [])]⟩
noncomputable def S_q26_0_w (x : Tys D_q26_0.head.ks) : Option (OutT D_q26_0.outs) := @whileO (Int × Int × Unit) (Int × Unit) S_spec_l02Plain_0 x
noncomputable def E_q26 : Env := ⟨layD, [(207, c_q25)], [(1, mkLM D_q26_0 S_q26_0_w)], []⟩
theorem cons_q26 : ConsOk Tryz.prog FX E_q26.cons := consOk_cons m_q25 (callable_of Tryz.func207 (by kernel_rfl)) (consOk_nil)
theorem S_q26_0_ok (x : Tys D_q26_0.head.ks) : stepL E_q26 D_q26_0 body_q26_0 x = S_spec_l02Plain_0 x := by kernel_rfl
theorem loops_q26_0 : loopsIn body_q26_0 = [] := by kernel_rfl
theorem l_q26_0 : LoopOk Tryz.prog FX (mkLM D_q26_0 S_q26_0_w) body_q26_0 := loop_ok2 mix layD_ok cons_q26 (by kernel_rfl) (loops_mem loops_q26_0 (trivial)) S_q26_0_ok fun _ _ h => h
theorem loops_q26 : loopsIn code_q26 = [body_q26_0] := by kernel_rfl
theorem m_q26 : Meets Tryz.prog FX 193 c_q26 := meets_of (E := E_q26) (code := code_q26) mix layD_ok cons_q26 Tryz.func193 (by kernel_rfl) sg_q26 (by kernel_rfl) (fun y => y.1) c_q26.out (fun _ => rfl) c_q26.run (fun x => by kernel_rfl) (by kernel_rfl) (loops_mem loops_q26 (⟨⟨_, by kernel_rfl, l_q26_0⟩, trivial⟩))
noncomputable def sg_q27 : Sig := ⟨[(false, [.own 0])], [(0, .arr false .int)], false, [(false, [.own 0])], [(0, .arr false .int)]⟩
noncomputable def c_q27 : Con := ⟨sg_q27, List Int, fun x => M_spec_l02Trim_c x.1, fun r => (r, ())⟩
noncomputable def code_q27 : Code := Tryz.f130.body.getD .skip
noncomputable def body_q27_0 : Code := (loopsIn code_q27).getD 0 .skip
noncomputable def D_q27_0 : LoopD := ⟨⟨mkSlots [(0, false, [.own 1408]), (3, false, [.d (.int .i64)])] 21 0, [(1408, .arr false .int)]⟩, [], [(.exit 0, ⟨mkSlots [(0, false, [.own 1408]), (3, false, [.d (.int .i64)])] 21 0, [(1408, .arr false .int)]⟩, [])]⟩
noncomputable def S_q27_0_w (x : Tys D_q27_0.head.ks) : Option (OutT D_q27_0.outs) := @whileO (Int × (List Int) × Unit) (Int × (List Int) × Unit) S_spec_l02Trim_c_0 x
noncomputable def E_q27 : Env := ⟨layD, [], [(2, mkLM D_q27_0 S_q27_0_w)], []⟩
theorem cons_q27 : ConsOk Tryz.prog FX E_q27.cons := consOk_nil
theorem S_q27_0_ok (x : Tys D_q27_0.head.ks) : stepL E_q27 D_q27_0 body_q27_0 x = S_spec_l02Trim_c_0 x := by kernel_rfl
theorem loops_q27_0 : loopsIn body_q27_0 = [] := by kernel_rfl
theorem l_q27_0 : LoopOk Tryz.prog FX (mkLM D_q27_0 S_q27_0_w) body_q27_0 := loop_ok2 mix layD_ok cons_q27 (by kernel_rfl) (loops_mem loops_q27_0 (trivial)) S_q27_0_ok fun _ _ h => h
theorem loops_q27 : loopsIn code_q27 = [body_q27_0] := by kernel_rfl
theorem m_q27 : Meets Tryz.prog FX 130 c_q27 := meets_of (E := E_q27) (code := code_q27) mix layD_ok cons_q27 Tryz.func130 (by kernel_rfl) sg_q27 (by kernel_rfl) (fun y => y.1) c_q27.out (fun _ => rfl) c_q27.run (fun x => by kernel_rfl) (by kernel_rfl) (loops_mem loops_q27 (⟨⟨_, by kernel_rfl, l_q27_0⟩, trivial⟩))
noncomputable def sg_q28 : Sig := ⟨[(false, [.d (.sl .int)]), (false, [.d (.int .i64)])], [], true, [(false, [.own 0]), (false, [.d (.int .i64)])], [(0, .arr false .int)]⟩
noncomputable def c_q28 : Con := ⟨sg_q28, List Int × Int, fun x => M_spec_l02Small x.1 x.2.1, fun r => (r.2, r.1, ())⟩
noncomputable def code_q28 : Code := Tryz.f223.body.getD .skip
noncomputable def body_q28_0 : Code := (loopsIn code_q28).getD 0 .skip
noncomputable def D_q28_0 : LoopD := ⟨⟨mkSlots [(0, false, [.d (.sl .int)]), (1, false, [.d (.int .i64)]), (6, false, [.own 2560]), (7, false, [.d (.int .i64)]), (8, false, [.d (.int .i64)])] 39 0, [(2560, .arr false .int)]⟩, [], [(.exit 0, ⟨mkSlots [(6, false, [.own 2560]), (7, false, [.d (.int .i64)])] 39 0, [(2560, .arr false .int)]⟩, [])]⟩
noncomputable def S_q28_0_w (x : Tys D_q28_0.head.ks) : Option (OutT D_q28_0.outs) := @whileO ((List Int) × Int × Int × Int × (List Int) × Unit) (Int × (List Int) × Unit) S_spec_l02Small_0 x
noncomputable def E_q28 : Env := ⟨layD, [(130, c_q27)], [(4, mkLM D_q28_0 S_q28_0_w)], []⟩
theorem cons_q28 : ConsOk Tryz.prog FX E_q28.cons := consOk_cons m_q27 (callable_of Tryz.func130 (by kernel_rfl)) (consOk_nil)
theorem S_q28_0_ok (x : Tys D_q28_0.head.ks) : stepL E_q28 D_q28_0 body_q28_0 x = S_spec_l02Small_0 x := by kernel_rfl
theorem loops_q28_0 : loopsIn body_q28_0 = [] := by kernel_rfl
theorem l_q28_0 : LoopOk Tryz.prog FX (mkLM D_q28_0 S_q28_0_w) body_q28_0 := loop_ok2 mix layD_ok cons_q28 (by kernel_rfl) (loops_mem loops_q28_0 (trivial)) S_q28_0_ok fun _ _ h => h
theorem loops_q28 : loopsIn code_q28 = [body_q28_0] := by kernel_rfl
theorem m_q28 : Meets Tryz.prog FX 223 c_q28 := meets_of (E := E_q28) (code := code_q28) mix layD_ok cons_q28 Tryz.func223 (by kernel_rfl) sg_q28 (by kernel_rfl) (fun y => (y.2.1, y.1)) c_q28.out (fun _ => rfl) c_q28.run (fun x => by kernel_rfl) (by kernel_rfl) (loops_mem loops_q28 (⟨⟨_, by kernel_rfl, l_q28_0⟩, trivial⟩))
noncomputable def sg_q29 : Sig := ⟨[(false, [.d (.sl .int)]), (false, [.d (.sl .int)])], [], false, [(false, [.own 0])], [(0, .arr false .int)]⟩
noncomputable def c_q29 : Con := ⟨sg_q29, List Int, fun x => M_spec_l02Mul x.1 x.2.1, fun r => (r, ())⟩
noncomputable def code_q29 : Code := Tryz.f180.body.getD .skip
noncomputable def body_q29_0 : Code := (loopsIn code_q29).getD 0 .skip
noncomputable def body_q29_1 : Code := (loopsIn body_q29_0).getD 0 .skip
noncomputable def D_q29_0 : LoopD := ⟨⟨mkSlots [(1, false, [.d (.sl .int)]), (5, false, [.own 4672]), (26, false, [.d (.sl .int)]), (27, false, [.d (.int .i64)]), (28, false, [.d (.int .i64)])] 72 0, [(4672, .arr false .int)]⟩, [], [(.exit 0, ⟨mkSlots [(5, false, [.own 4672])] 72 0, [(4672, .arr false .int)]⟩, [])]⟩
noncomputable def D_q29_1 : LoopD := ⟨⟨mkSlots [(1, false, [.d (.sl .int)]), (5, false, [.own 4672]), (6, false, [.d (.int .i64)]), (7, false, [.d (.int .i64)]), (8, false, [.d (.int .i64)]), (26, false, [.d (.sl .int)]), (27, false, [.d (.int .i64)]), (28, false, [.d (.int .i64)]), (33, false, [.d (.sl .int)]), (34, false, [.d (.int .i64)]), (35, false, [.d (.int .i64)])] 72 0, [(4672, .arr false .int)]⟩, [], [(.exit 2, ⟨mkSlots [(1, false, [.d (.sl .int)]), (5, false, [.own 4672]), (6, false, [.d (.int .i64)]), (8, false, [.d (.int .i64)]), (26, false, [.d (.sl .int)]), (27, false, [.d (.int .i64)]), (28, false, [.d (.int .i64)])] 72 0, [(4672, .arr false .int)]⟩, [])]⟩
noncomputable def S_q29_0_w (x : Tys D_q29_0.head.ks) : Option (OutT D_q29_0.outs) := @whileO ((List Int) × (List Int) × Int × Int × (List Int) × Unit) ((List Int) × Unit) S_spec_l02Mul_0 x
noncomputable def S_q29_1_w (x : Tys D_q29_1.head.ks) : Option (OutT D_q29_1.outs) := @whileO ((List Int) × Int × Int × Int × (List Int) × Int × Int × (List Int) × Int × Int × (List Int) × Unit) ((List Int) × Int × Int × (List Int) × Int × Int × (List Int) × Unit) S_spec_l02Mul_1 x
noncomputable def E_q29 : Env := ⟨layD, [(130, c_q27)], [(5, mkLM D_q29_0 S_q29_0_w), (9, mkLM D_q29_1 S_q29_1_w)], []⟩
theorem cons_q29 : ConsOk Tryz.prog FX E_q29.cons := consOk_cons m_q27 (callable_of Tryz.func130 (by kernel_rfl)) (consOk_nil)
theorem S_q29_1_ok (x : Tys D_q29_1.head.ks) : stepL E_q29 D_q29_1 body_q29_1 x = S_spec_l02Mul_1 x := by kernel_rfl
theorem loops_q29_1 : loopsIn body_q29_1 = [] := by kernel_rfl
theorem l_q29_1 : LoopOk Tryz.prog FX (mkLM D_q29_1 S_q29_1_w) body_q29_1 := loop_ok2 mix layD_ok cons_q29 (by kernel_rfl) (loops_mem loops_q29_1 (trivial)) S_q29_1_ok fun _ _ h => h
theorem S_q29_0_ok (x : Tys D_q29_0.head.ks) : stepL E_q29 D_q29_0 body_q29_0 x = S_spec_l02Mul_0 x := by kernel_rfl
theorem loops_q29_0 : loopsIn body_q29_0 = [body_q29_1] := by kernel_rfl
theorem l_q29_0 : LoopOk Tryz.prog FX (mkLM D_q29_0 S_q29_0_w) body_q29_0 := loop_ok2 mix layD_ok cons_q29 (by kernel_rfl) (loops_mem loops_q29_0 (⟨⟨_, by kernel_rfl, l_q29_1⟩, trivial⟩)) S_q29_0_ok fun _ _ h => h
theorem loops_q29 : loopsIn code_q29 = [body_q29_0] := by kernel_rfl
theorem m_q29 : Meets Tryz.prog FX 180 c_q29 := meets_of (E := E_q29) (code := code_q29) mix layD_ok cons_q29 Tryz.func180 (by kernel_rfl) sg_q29 (by kernel_rfl) (fun y => y.1) c_q29.out (fun _ => rfl) c_q29.run (fun x => by kernel_rfl) (by kernel_rfl) (loops_mem loops_q29 (⟨⟨_, by kernel_rfl, l_q29_0⟩, trivial⟩))
noncomputable def sg_q30 : Sig := ⟨[(false, [.d (.sl .int)]), (false, [.d (.sl .int)])], [], false, [(false, [.d (.int .i64)])], []⟩
noncomputable def c_q30 : Con := ⟨sg_q30, Int, fun x => M_spec_l02Digit x.1 x.2.1, fun r => (r, ())⟩
noncomputable def code_q30 : Code := Tryz.f224.body.getD .skip
noncomputable def body_q30_0 : Code := (loopsIn code_q30).getD 0 .skip
noncomputable def D_q30_0 : LoopD := ⟨⟨mkSlots [(0, false, [.d (.sl .int)]), (1, false, [.d (.sl .int)]), (5, false, [.d (.int .i64)]), (6, false, [.d (.int .i64)])] 27 0, []⟩, [], [(.exit 0, ⟨mkSlots [(5, false, [.d (.int .i64)])] 27 0, []⟩, [])]⟩
noncomputable def S_q30_0_w (x : Tys D_q30_0.head.ks) : Option (OutT D_q30_0.outs) := @whileO ((List Int) × (List Int) × Int × Int × Unit) (Int × Unit) S_spec_l02Digit_0 x
noncomputable def E_q30 : Env := ⟨layD, [(207, c_q25), (180, c_q29), (209, c_q23)], [(3, mkLM D_q30_0 S_q30_0_w)], []⟩
theorem cons_q30 : ConsOk Tryz.prog FX E_q30.cons := consOk_cons m_q25 (callable_of Tryz.func207 (by kernel_rfl)) (consOk_cons m_q29 (callable_of Tryz.func180 (by kernel_rfl)) (consOk_cons m_q23 (callable_of Tryz.func209 (by kernel_rfl)) (consOk_nil)))
theorem S_q30_0_ok (x : Tys D_q30_0.head.ks) : stepL E_q30 D_q30_0 body_q30_0 x = S_spec_l02Digit_0 x := by kernel_rfl
theorem loops_q30_0 : loopsIn body_q30_0 = [] := by kernel_rfl
theorem l_q30_0 : LoopOk Tryz.prog FX (mkLM D_q30_0 S_q30_0_w) body_q30_0 := loop_ok2 mix layD_ok cons_q30 (by kernel_rfl) (loops_mem loops_q30_0 (trivial)) S_q30_0_ok fun _ _ h => h
theorem loops_q30 : loopsIn code_q30 = [body_q30_0] := by kernel_rfl
theorem m_q30 : Meets Tryz.prog FX 224 c_q30 := meets_of (E := E_q30) (code := code_q30) mix layD_ok cons_q30 Tryz.func224 (by kernel_rfl) sg_q30 (by kernel_rfl) (fun y => y.1) c_q30.out (fun _ => rfl) c_q30.run (fun x => by kernel_rfl) (by kernel_rfl) (loops_mem loops_q30 (⟨⟨_, by kernel_rfl, l_q30_0⟩, trivial⟩))
noncomputable def sg_q32 : Sig := ⟨[(false, [.d (.sl .int)]), (false, [.d (.sl .int)])], [], false, [(false, [.own 0])], [(0, .arr false .int)]⟩
noncomputable def c_q32 : Con := ⟨sg_q32, List Int, fun x => M_spec_l02Sub x.1 x.2.1, fun r => (r, ())⟩
noncomputable def code_q32 : Code := Tryz.f210.body.getD .skip
noncomputable def body_q32_0 : Code := (loopsIn code_q32).getD 0 .skip
noncomputable def D_q32_0 : LoopD := ⟨⟨mkSlots [(0, false, [.d (.sl .int)]), (1, false, [.d (.sl .int)]), (5, false, [.own 2752]), (6, false, [.d (.int .i64)]), (11, false, [.d (.int .i64)]), (12, false, [.d (.int .i64)])] 42 0, [(2752, .arr false .int)]⟩, [(.slot 5 0, 2752, .int)], [(.exit 0, ⟨mkSlots [(5, false, [.own 2752])] 42 0, [(2752, .arr false .int)]⟩, [(.slot 5 0, 2752, .int)])]⟩
noncomputable def S_q32_0_w (x : Tys D_q32_0.head.ks) : Option (OutT D_q32_0.outs) := @whileO ((List Int) × (List Int) × Int × Int × Int × (List Int) × Unit) ((List Int) × Unit) S_spec_l02Sub_0 x
noncomputable def E_q32 : Env := ⟨layD, [(130, c_q27)], [(4, mkLM D_q32_0 S_q32_0_w)], []⟩
theorem cons_q32 : ConsOk Tryz.prog FX E_q32.cons := consOk_cons m_q27 (callable_of Tryz.func130 (by kernel_rfl)) (consOk_nil)
theorem S_q32_0_ok (x : Tys D_q32_0.head.ks) : stepL E_q32 D_q32_0 body_q32_0 x = S_spec_l02Sub_0 x := by kernel_rfl
theorem loops_q32_0 : loopsIn body_q32_0 = [] := by kernel_rfl
theorem l_q32_0 : LoopOk Tryz.prog FX (mkLM D_q32_0 S_q32_0_w) body_q32_0 := loop_ok2 mix layD_ok cons_q32 (by kernel_rfl) (loops_mem loops_q32_0 (trivial)) S_q32_0_ok fun _ _ h => h
theorem loops_q32 : loopsIn code_q32 = [body_q32_0] := by kernel_rfl
theorem m_q32 : Meets Tryz.prog FX 210 c_q32 := meets_of (E := E_q32) (code := code_q32) mix layD_ok cons_q32 Tryz.func210 (by kernel_rfl) sg_q32 (by kernel_rfl) (fun y => y.1) c_q32.out (fun _ => rfl) c_q32.run (fun x => by kernel_rfl) (by kernel_rfl) (loops_mem loops_q32 (⟨⟨_, by kernel_rfl, l_q32_0⟩, trivial⟩))
noncomputable def sg_q33 : Sig := ⟨[(false, [.d (.sl .int)]), (false, [.d (.sl .int)])], [], true, [(false, [.own 0]), (false, [.own 1])], [(0, .arr false .int), (1, .arr false .int)]⟩
noncomputable def c_q33 : Con := ⟨sg_q33, List Int × List Int, fun x => M_spec_l02Div x.1 x.2.1, fun r => (r.1, r.2, ())⟩
noncomputable def code_q33 : Code := Tryz.f194.body.getD .skip
noncomputable def body_q33_0 : Code := (loopsIn code_q33).getD 0 .skip
noncomputable def D_q33_0 : LoopD := ⟨⟨mkSlots [(0, false, [.d (.sl .int)]), (1, false, [.d (.sl .int)]), (8, false, [.own 4224]), (9, false, [.own 4288]), (10, false, [.d (.int .i64)])] 65 0, [(4224, .arr false .int), (4288, .arr false .int)]⟩, [(.slot 9 0, 4288, .int)], [(.exit 0, ⟨mkSlots [(8, false, [.own 4224]), (9, false, [.own 4288])] 65 0, [(4224, .arr false .int), (4288, .arr false .int)]⟩, [(.slot 9 0, 4288, .int)])]⟩
noncomputable def S_q33_0_w (x : Tys D_q33_0.head.ks) : Option (OutT D_q33_0.outs) := @whileO ((List Int) × (List Int) × Int × (List Int) × (List Int) × Unit) ((List Int) × (List Int) × Unit) S_spec_l02Div_0 x
noncomputable def E_q33 : Env := ⟨layD, [(223, c_q28), (207, c_q25), (130, c_q27), (209, c_q23), (224, c_q30), (180, c_q29), (210, c_q32)], [(7, mkLM D_q33_0 S_q33_0_w)], []⟩
theorem cons_q33 : ConsOk Tryz.prog FX E_q33.cons := consOk_cons m_q28 (callable_of Tryz.func223 (by kernel_rfl)) (consOk_cons m_q25 (callable_of Tryz.func207 (by kernel_rfl)) (consOk_cons m_q27 (callable_of Tryz.func130 (by kernel_rfl)) (consOk_cons m_q23 (callable_of Tryz.func209 (by kernel_rfl)) (consOk_cons m_q30 (callable_of Tryz.func224 (by kernel_rfl)) (consOk_cons m_q29 (callable_of Tryz.func180 (by kernel_rfl)) (consOk_cons m_q32 (callable_of Tryz.func210 (by kernel_rfl)) (consOk_nil)))))))
theorem S_q33_0_ok (x : Tys D_q33_0.head.ks) : stepL E_q33 D_q33_0 body_q33_0 x = S_spec_l02Div_0 x := by kernel_rfl
theorem loops_q33_0 : loopsIn body_q33_0 = [] := by kernel_rfl
theorem l_q33_0 : LoopOk Tryz.prog FX (mkLM D_q33_0 S_q33_0_w) body_q33_0 := loop_ok2 mix layD_ok cons_q33 (by kernel_rfl) (loops_mem loops_q33_0 (trivial)) S_q33_0_ok fun _ _ h => h
theorem loops_q33 : loopsIn code_q33 = [body_q33_0] := by kernel_rfl
theorem m_q33 : Meets Tryz.prog FX 194 c_q33 := meets_of (E := E_q33) (code := code_q33) mix layD_ok cons_q33 Tryz.func194 (by kernel_rfl) sg_q33 (by kernel_rfl) (fun y => (y.1, y.2.1)) c_q33.out (fun _ => rfl) c_q33.run (fun x => by kernel_rfl) (by kernel_rfl) (loops_mem loops_q33 (⟨⟨_, by kernel_rfl, l_q33_0⟩, trivial⟩))
noncomputable def sg_q34 : Sig := ⟨[(false, [.d (.sl .int)]), (false, [.d (.sl .int)])], [], false, [(false, [.own 0])], [(0, .arr false .int)]⟩
noncomputable def c_q34 : Con := ⟨sg_q34, List Int, fun x => M_spec_l02Gcd x.1 x.2.1, fun r => (r, ())⟩
noncomputable def code_q34 : Code := Tryz.f164.body.getD .skip
noncomputable def body_q34_0 : Code := (loopsIn code_q34).getD 0 .skip
noncomputable def D_q34_0 : LoopD := ⟨⟨mkSlots [(5, false, [.own 3392]), (6, false, [.own 3456])] 52 0, [(3392, .arr false .int), (3456, .arr false .int)]⟩, [], [(.ret, ⟨mkSlots [(4, false, [.own 3520])] 52 0, [(3520, .arr false .int)]⟩, []), (.exit 0, ⟨mkSlots [(5, false, [.own 3392])] 52 0, [(3392, .arr false .int)]⟩, [])]⟩
noncomputable def S_q34_0_w (x : Tys D_q34_0.head.ks) : Option (OutT D_q34_0.outs) := @whileO ((List Int) × (List Int) × Unit) (((List Int) × Unit) ⊕ ((List Int) × Unit)) S_spec_l02Gcd_0 x
noncomputable def E_q34 : Env := ⟨layD, [(192, c_q24), (193, c_q26), (194, c_q33)], [(3, mkLM D_q34_0 S_q34_0_w)], []⟩
theorem cons_q34 : ConsOk Tryz.prog FX E_q34.cons := consOk_cons m_q24 (callable_of Tryz.func192 (by kernel_rfl)) (consOk_cons m_q26 (callable_of Tryz.func193 (by kernel_rfl)) (consOk_cons m_q33 (callable_of Tryz.func194 (by kernel_rfl)) (consOk_nil)))
theorem S_q34_0_ok (x : Tys D_q34_0.head.ks) : stepL E_q34 D_q34_0 body_q34_0 x = S_spec_l02Gcd_0 x := by kernel_rfl
theorem loops_q34_0 : loopsIn body_q34_0 = [] := by kernel_rfl
theorem l_q34_0 : LoopOk Tryz.prog FX (mkLM D_q34_0 S_q34_0_w) body_q34_0 := loop_ok2 mix layD_ok cons_q34 (by kernel_rfl) (loops_mem loops_q34_0 (trivial)) S_q34_0_ok fun _ _ h => h
theorem loops_q34 : loopsIn code_q34 = [body_q34_0] := by kernel_rfl
theorem m_q34 : Meets Tryz.prog FX 164 c_q34 := meets_of (E := E_q34) (code := code_q34) mix layD_ok cons_q34 Tryz.func164 (by kernel_rfl) sg_q34 (by kernel_rfl) (fun y => y.1) c_q34.out (fun _ => rfl) c_q34.run (fun x => by kernel_rfl) (by kernel_rfl) (loops_mem loops_q34 (⟨⟨_, by kernel_rfl, l_q34_0⟩, trivial⟩))
noncomputable def sg_q35 : Sig := ⟨[(false, [.d (.sl .int)])], [], false, [(false, [.d (.bool)])], []⟩
noncomputable def c_q35 : Con := ⟨sg_q35, Bool, fun x => M_spec_l04One x.1, fun r => (r, ())⟩
noncomputable def code_q35 : Code := Tryz.f126.body.getD .skip
noncomputable def E_q35 : Env := ⟨layD, [], [], []⟩
theorem cons_q35 : ConsOk Tryz.prog FX E_q35.cons := consOk_nil
theorem loops_q35 : loopsIn code_q35 = [] := by kernel_rfl
theorem m_q35 : Meets Tryz.prog FX 126 c_q35 := meets_of (E := E_q35) (code := code_q35) mix layD_ok cons_q35 Tryz.func126 (by kernel_rfl) sg_q35 (by kernel_rfl) (fun y => y.1) c_q35.out (fun _ => rfl) c_q35.run (fun x => by kernel_rfl) (by kernel_rfl) (loops_mem loops_q35 (trivial))
noncomputable def sg_q36 : Sig := ⟨[(true, [.d (.bool), .d (.sl .int), .d (.sl .int)])], [], false, [(false, [.d (.bool)])], []⟩
noncomputable def c_q36 : Con := ⟨sg_q36, Bool, fun x => M_spec_RatOk (⟨x.1, x.2.1, x.2.2.1⟩ : Rt), fun r => (r, ())⟩
noncomputable def code_q36 : Code := Tryz.f125.body.getD .skip
noncomputable def E_q36 : Env := ⟨layD, [(162, c_q22), (163, c_q21), (164, c_q34), (126, c_q35)], [], []⟩
theorem cons_q36 : ConsOk Tryz.prog FX E_q36.cons := consOk_cons m_q22 (callable_of Tryz.func162 (by kernel_rfl)) (consOk_cons m_q21 (callable_of Tryz.func163 (by kernel_rfl)) (consOk_cons m_q34 (callable_of Tryz.func164 (by kernel_rfl)) (consOk_cons m_q35 (callable_of Tryz.func126 (by kernel_rfl)) (consOk_nil))))
theorem loops_q36 : loopsIn code_q36 = [] := by kernel_rfl
theorem m_q36 : Meets Tryz.prog FX 125 c_q36 := meets_of (E := E_q36) (code := code_q36) mix layD_ok cons_q36 Tryz.func125 (by kernel_rfl) sg_q36 (by kernel_rfl) (fun y => y.1) c_q36.out (fun _ => rfl) c_q36.run (fun x => by kernel_rfl) (by kernel_rfl) (loops_mem loops_q36 (trivial))
noncomputable def sg_q37 : Sig := ⟨[(true, [.d (.bool), .d (.sl .int), .d (.sl .int)])], [], false, [(false, [.d (.bool)])], []⟩
noncomputable def c_q37 : Con := ⟨sg_q37, Bool, fun x => M_spec_l05Nil (⟨x.1, x.2.1, x.2.2.1⟩ : Rt), fun r => (r, ())⟩
noncomputable def code_q37 : Code := Tryz.f168.body.getD .skip
noncomputable def E_q37 : Env := ⟨layD, [], [], []⟩
theorem cons_q37 : ConsOk Tryz.prog FX E_q37.cons := consOk_nil
theorem loops_q37 : loopsIn code_q37 = [] := by kernel_rfl
theorem m_q37 : Meets Tryz.prog FX 168 c_q37 := meets_of (E := E_q37) (code := code_q37) mix layD_ok cons_q37 Tryz.func168 (by kernel_rfl) sg_q37 (by kernel_rfl) (fun y => y.1) c_q37.out (fun _ => rfl) c_q37.run (fun x => by kernel_rfl) (by kernel_rfl) (loops_mem loops_q37 (trivial))
noncomputable def sg_q38 : Sig := ⟨[(true, [.d (.str), .d (.bool), .d (.sl .int), .d (.sl .int), .d (.bool), .d (.sl .int), .d (.sl .int), .d (.bool)]), (false, [.d (.bool)])], [], false, [(false, [.d (.bool)])], []⟩
noncomputable def c_q38 : Con := ⟨sg_q38, Bool, fun x => M_spec_StationOk (⟨x.1, (⟨x.2.1, x.2.2.1, x.2.2.2.1⟩ : Rt), (⟨x.2.2.2.2.1, x.2.2.2.2.2.1, x.2.2.2.2.2.2.1⟩ : Rt), x.2.2.2.2.2.2.2.1⟩ : Sta) x.2.2.2.2.2.2.2.2.1, fun r => (r, ())⟩
noncomputable def code_q38 : Code := Tryz.f131.body.getD .skip
noncomputable def E_q38 : Env := ⟨layD, [(167, c_q20), (125, c_q36), (168, c_q37)], [], []⟩
theorem cons_q38 : ConsOk Tryz.prog FX E_q38.cons := consOk_cons m_q20 (callable_of Tryz.func167 (by kernel_rfl)) (consOk_cons m_q36 (callable_of Tryz.func125 (by kernel_rfl)) (consOk_cons m_q37 (callable_of Tryz.func168 (by kernel_rfl)) (consOk_nil)))
theorem loops_q38 : loopsIn code_q38 = [] := by kernel_rfl
theorem m_q38 : Meets Tryz.prog FX 131 c_q38 := meets_of (E := E_q38) (code := code_q38) mix layD_ok cons_q38 Tryz.func131 (by kernel_rfl) sg_q38 (by kernel_rfl) (fun y => y.1) c_q38.out (fun _ => rfl) c_q38.run (fun x => by kernel_rfl) (by kernel_rfl) (loops_mem loops_q38 (trivial))
noncomputable def sg_q39 : Sig := ⟨[(true, [.d (.bool), .d (.sl .sta)]), (false, [.d (.str)])], [], false, [(false, [.d (.int .i64)])], []⟩
noncomputable def c_q39 : Con := ⟨sg_q39, Int, fun x => M_spec_FindStation (⟨x.1, x.2.1⟩ : Net) x.2.2.1, fun r => (r, ())⟩
noncomputable def code_q39 : Code := Tryz.f40.body.getD .skip
noncomputable def body_q39_0 : Code := (loopsIn code_q39).getD 0 .skip
noncomputable def D_q39_0 : LoopD := ⟨⟨mkSlots [(1, false, [.d (.str)]), (8, false, [.d (.sl .sta)]), (9, false, [.d (.int .i64)]), (10, false, [.d (.int .i64)])] 21 0, []⟩, [], [(.ret, ⟨mkSlots [(4, false, [.d (.int .i64)])] 21 0, []⟩, []), (.exit 0, ⟨mkSlots [] 21 0, []⟩, [])]⟩
noncomputable def S_q39_0_w (x : Tys D_q39_0.head.ks) : Option (OutT D_q39_0.outs) := @whileO (ByteArray × (List Sta) × Int × Int × Unit) ((Int × Unit) ⊕ (Unit)) S_spec_FindStation_0 x
noncomputable def E_q39 : Env := ⟨layD, [], [(2, mkLM D_q39_0 S_q39_0_w)], []⟩
theorem cons_q39 : ConsOk Tryz.prog FX E_q39.cons := consOk_nil
theorem S_q39_0_ok (x : Tys D_q39_0.head.ks) : stepL E_q39 D_q39_0 body_q39_0 x = S_spec_FindStation_0 x := by kernel_rfl
theorem loops_q39_0 : loopsIn body_q39_0 = [] := by kernel_rfl
theorem l_q39_0 : LoopOk Tryz.prog FX (mkLM D_q39_0 S_q39_0_w) body_q39_0 := loop_ok2 mix layD_ok cons_q39 (by kernel_rfl) (loops_mem loops_q39_0 (trivial)) S_q39_0_ok fun _ _ h => h
theorem loops_q39 : loopsIn code_q39 = [body_q39_0] := by kernel_rfl
theorem m_q39 : Meets Tryz.prog FX 40 c_q39 := meets_of (E := E_q39) (code := code_q39) mix layD_ok cons_q39 Tryz.func40 (by kernel_rfl) sg_q39 (by kernel_rfl) (fun y => y.1) c_q39.out (fun _ => rfl) c_q39.run (fun x => by kernel_rfl) (by kernel_rfl) (loops_mem loops_q39 (⟨⟨_, by kernel_rfl, l_q39_0⟩, trivial⟩))
noncomputable def sg_q40 : Sig := ⟨[(true, [.d (.bool), .d (.sl .sta)])], [], false, [(false, [.d (.bool)])], []⟩
noncomputable def c_q40 : Con := ⟨sg_q40, Bool, fun x => M_spec_NetworkOk (⟨x.1, x.2.1⟩ : Net), fun r => (r, ())⟩
noncomputable def code_q40 : Code := Tryz.f86.body.getD .skip
noncomputable def body_q40_0 : Code := (loopsIn code_q40).getD 0 .skip
noncomputable def D_q40_0 : LoopD := ⟨⟨mkSlots [(1, false, [.lp 64 0]), (10, false, [.d (.sl .sta)]), (11, false, [.d (.int .i64)]), (12, false, [.d (.int .i64)])] 31 0, [(64, .box [.d (.bool), .d (.sl .sta)])]⟩, [], [(.ret, ⟨mkSlots [(2, false, [.d (.bool)])] 31 0, []⟩, []), (.exit 0, ⟨mkSlots [] 31 0, []⟩, [])]⟩
noncomputable def S_q40_0_w (x : Tys D_q40_0.head.ks) : Option (OutT D_q40_0.outs) := @whileO ((List Sta) × Int × Int × Bool × (List Sta) × Unit) ((Bool × Unit) ⊕ (Unit)) S_spec_NetworkOk_0 x
noncomputable def E_q40 : Env := ⟨layD, [(131, c_q38), (40, c_q39)], [(4, mkLM D_q40_0 S_q40_0_w)], []⟩
theorem cons_q40 : ConsOk Tryz.prog FX E_q40.cons := consOk_cons m_q38 (callable_of Tryz.func131 (by kernel_rfl)) (consOk_cons m_q39 (callable_of Tryz.func40 (by kernel_rfl)) (consOk_nil))
theorem S_q40_0_ok (x : Tys D_q40_0.head.ks) : stepL E_q40 D_q40_0 body_q40_0 x = S_spec_NetworkOk_0 x := by kernel_rfl
theorem loops_q40_0 : loopsIn body_q40_0 = [] := by kernel_rfl
theorem l_q40_0 : LoopOk Tryz.prog FX (mkLM D_q40_0 S_q40_0_w) body_q40_0 := loop_ok2 mix layD_ok cons_q40 (by kernel_rfl) (loops_mem loops_q40_0 (trivial)) S_q40_0_ok fun _ _ h => h
theorem loops_q40 : loopsIn code_q40 = [body_q40_0] := by kernel_rfl
theorem m_q40 : Meets Tryz.prog FX 86 c_q40 := meets_of (E := E_q40) (code := code_q40) mix layD_ok cons_q40 Tryz.func86 (by kernel_rfl) sg_q40 (by kernel_rfl) (fun y => y.1) c_q40.out (fun _ => rfl) c_q40.run (fun x => by kernel_rfl) (by kernel_rfl) (loops_mem loops_q40 (⟨⟨_, by kernel_rfl, l_q40_0⟩, trivial⟩))
noncomputable def sg_q41 : Sig := ⟨[(false, [.d (.int .i64)]), (false, [.d (.bool)])], [], false, [(false, [.d (.bool)])], []⟩
noncomputable def c_q41 : Con := ⟨sg_q41, Bool, fun x => M_spec_l11Fits x.1 x.2.1, fun r => (r, ())⟩
noncomputable def code_q41 : Code := Tryz.f132.body.getD .skip
noncomputable def E_q41 : Env := ⟨layD, [(83, c_q19)], [], []⟩
theorem cons_q41 : ConsOk Tryz.prog FX E_q41.cons := consOk_cons m_q19 (callable_of Tryz.func83 (by kernel_rfl)) (consOk_nil)
theorem loops_q41 : loopsIn code_q41 = [] := by kernel_rfl
theorem m_q41 : Meets Tryz.prog FX 132 c_q41 := meets_of (E := E_q41) (code := code_q41) mix layD_ok cons_q41 Tryz.func132 (by kernel_rfl) sg_q41 (by kernel_rfl) (fun y => y.1) c_q41.out (fun _ => rfl) c_q41.run (fun x => by kernel_rfl) (by kernel_rfl) (loops_mem loops_q41 (trivial))
noncomputable def sg_q42 : Sig := ⟨[(false, [.d (.int .i64)])], [], false, [(false, [.d (.bool)])], []⟩
noncomputable def c_q42 : Con := ⟨sg_q42, Bool, fun x => M_spec_IsBetween x.1, fun r => (r, ())⟩
noncomputable def code_q42 : Code := Tryz.f39.body.getD .skip
noncomputable def E_q42 : Env := ⟨layD, [(83, c_q19)], [], []⟩
theorem cons_q42 : ConsOk Tryz.prog FX E_q42.cons := consOk_cons m_q19 (callable_of Tryz.func83 (by kernel_rfl)) (consOk_nil)
theorem loops_q42 : loopsIn code_q42 = [] := by kernel_rfl
theorem m_q42 : Meets Tryz.prog FX 39 c_q42 := meets_of (E := E_q42) (code := code_q42) mix layD_ok cons_q42 Tryz.func39 (by kernel_rfl) sg_q42 (by kernel_rfl) (fun y => y.1) c_q42.out (fun _ => rfl) c_q42.run (fun x => by kernel_rfl) (by kernel_rfl) (loops_mem loops_q42 (trivial))
noncomputable def sg_q43 : Sig := ⟨[(true, [.d (.bool), .d (.sl .int), .d (.sl .int)])], [], false, [(false, [.d (.int .i64)])], []⟩
noncomputable def c_q43 : Con := ⟨sg_q43, Int, fun x => M_spec_RatSign (⟨x.1, x.2.1, x.2.2.1⟩ : Rt), fun r => (r, ())⟩
noncomputable def code_q43 : Code := Tryz.f133.body.getD .skip
noncomputable def E_q43 : Env := ⟨layD, [(125, c_q36)], [], []⟩
theorem cons_q43 : ConsOk Tryz.prog FX E_q43.cons := consOk_cons m_q36 (callable_of Tryz.func125 (by kernel_rfl)) (consOk_nil)
theorem loops_q43 : loopsIn code_q43 = [] := by kernel_rfl
theorem m_q43 : Meets Tryz.prog FX 133 c_q43 := meets_of (E := E_q43) (code := code_q43) mix layD_ok cons_q43 Tryz.func133 (by kernel_rfl) sg_q43 (by kernel_rfl) (fun y => y.1) c_q43.out (fun _ => rfl) c_q43.run (fun x => by kernel_rfl) (by kernel_rfl) (loops_mem loops_q43 (trivial))
noncomputable def sg_q44 : Sig := ⟨[(true, [.d (.bool), .d (.sl .sta)]), (true, [.d (.int .i64), .d (.int .i64), .d (.int .i64), .d (.bool), .d (.sl .int), .d (.sl .int), .d (.bool), .d (.sl .int), .d (.sl .int)])], [], false, [(false, [.d (.bool)])], []⟩
noncomputable def c_q44 : Con := ⟨sg_q44, Bool, fun x => M_spec_l11Ok (⟨x.1, x.2.1⟩ : Net) (⟨x.2.2.1, x.2.2.2.1, x.2.2.2.2.1, (⟨x.2.2.2.2.2.1, x.2.2.2.2.2.2.1, x.2.2.2.2.2.2.2.1⟩ : Rt), (⟨x.2.2.2.2.2.2.2.2.1, x.2.2.2.2.2.2.2.2.2.1, x.2.2.2.2.2.2.2.2.2.2.1⟩ : Rt)⟩ : Obs), fun r => (r, ())⟩
noncomputable def code_q44 : Code := Tryz.f87.body.getD .skip
noncomputable def E_q44 : Env := ⟨layD, [(132, c_q41), (83, c_q19), (39, c_q42), (125, c_q36), (133, c_q43)], [], []⟩
theorem cons_q44 : ConsOk Tryz.prog FX E_q44.cons := consOk_cons m_q41 (callable_of Tryz.func132 (by kernel_rfl)) (consOk_cons m_q19 (callable_of Tryz.func83 (by kernel_rfl)) (consOk_cons m_q42 (callable_of Tryz.func39 (by kernel_rfl)) (consOk_cons m_q36 (callable_of Tryz.func125 (by kernel_rfl)) (consOk_cons m_q43 (callable_of Tryz.func133 (by kernel_rfl)) (consOk_nil)))))
theorem loops_q44 : loopsIn code_q44 = [] := by kernel_rfl
theorem m_q44 : Meets Tryz.prog FX 87 c_q44 := meets_of (E := E_q44) (code := code_q44) mix layD_ok cons_q44 Tryz.func87 (by kernel_rfl) sg_q44 (by kernel_rfl) (fun y => y.1) c_q44.out (fun _ => rfl) c_q44.run (fun x => by kernel_rfl) (by kernel_rfl) (loops_mem loops_q44 (trivial))
noncomputable def sg_q45 : Sig := ⟨[(true, [.d (.bool), .d (.sl .sta)]), (false, [.d (.sl .obs)])], [], false, [(false, [.d (.bool)])], []⟩
noncomputable def c_q45 : Con := ⟨sg_q45, Bool, fun x => M_spec_ObservationsOk (⟨x.1, x.2.1⟩ : Net) x.2.2.1, fun r => (r, ())⟩
noncomputable def code_q45 : Code := Tryz.f124.body.getD .skip
noncomputable def body_q45_0 : Code := (loopsIn code_q45).getD 0 .skip
noncomputable def D_q45_0 : LoopD := ⟨⟨mkSlots [(2, false, [.lp 128 0]), (15, false, [.d (.sl .obs)]), (16, false, [.d (.int .i64)]), (17, false, [.d (.int .i64)])] 26 0, [(128, .box [.d (.bool), .d (.sl .sta)])]⟩, [], [(.ret, ⟨mkSlots [(4, false, [.d (.bool)])] 26 0, []⟩, []), (.exit 0, ⟨mkSlots [] 26 0, []⟩, [])]⟩
noncomputable def S_q45_0_w (x : Tys D_q45_0.head.ks) : Option (OutT D_q45_0.outs) := @whileO ((List Obs) × Int × Int × Bool × (List Sta) × Unit) ((Bool × Unit) ⊕ (Unit)) S_spec_ObservationsOk_0 x
noncomputable def E_q45 : Env := ⟨layD, [(86, c_q40), (87, c_q44)], [(4, mkLM D_q45_0 S_q45_0_w)], []⟩
theorem cons_q45 : ConsOk Tryz.prog FX E_q45.cons := consOk_cons m_q40 (callable_of Tryz.func86 (by kernel_rfl)) (consOk_cons m_q44 (callable_of Tryz.func87 (by kernel_rfl)) (consOk_nil))
theorem S_q45_0_ok (x : Tys D_q45_0.head.ks) : stepL E_q45 D_q45_0 body_q45_0 x = S_spec_ObservationsOk_0 x := by kernel_rfl
theorem loops_q45_0 : loopsIn body_q45_0 = [] := by kernel_rfl
theorem l_q45_0 : LoopOk Tryz.prog FX (mkLM D_q45_0 S_q45_0_w) body_q45_0 := loop_ok2 mix layD_ok cons_q45 (by kernel_rfl) (loops_mem loops_q45_0 (trivial)) S_q45_0_ok fun _ _ h => h
theorem loops_q45 : loopsIn code_q45 = [body_q45_0] := by kernel_rfl
theorem m_q45 : Meets Tryz.prog FX 124 c_q45 := meets_of (E := E_q45) (code := code_q45) mix layD_ok cons_q45 Tryz.func124 (by kernel_rfl) sg_q45 (by kernel_rfl) (fun y => y.1) c_q45.out (fun _ => rfl) c_q45.run (fun x => by kernel_rfl) (by kernel_rfl) (loops_mem loops_q45 (⟨⟨_, by kernel_rfl, l_q45_0⟩, trivial⟩))
noncomputable def sg_q46 : Sig := ⟨[(true, [.d (.bool), .d (.sl .sta), .d (.sl .obs)])], [], false, [(false, [.d (.bool)])], []⟩
noncomputable def c_q46 : Con := ⟨sg_q46, Bool, fun x => M_spec_BookOk (⟨x.1, x.2.1, x.2.2.1⟩ : Bk), fun r => (r, ())⟩
noncomputable def code_q46 : Code := Tryz.f78.body.getD .skip
noncomputable def E_q46 : Env := ⟨layD, [(124, c_q45)], [], []⟩
theorem cons_q46 : ConsOk Tryz.prog FX E_q46.cons := consOk_cons m_q45 (callable_of Tryz.func124 (by kernel_rfl)) (consOk_nil)
theorem loops_q46 : loopsIn code_q46 = [] := by kernel_rfl
theorem m_q46 : Meets Tryz.prog FX 78 c_q46 := meets_of (E := E_q46) (code := code_q46) mix layD_ok cons_q46 Tryz.func78 (by kernel_rfl) sg_q46 (by kernel_rfl) (fun y => y.1) c_q46.out (fun _ => rfl) c_q46.run (fun x => by kernel_rfl) (by kernel_rfl) (loops_mem loops_q46 (trivial))
noncomputable def sg_q47 : Sig := ⟨[(false, [.d (.int .i64)])], [], false, [(false, [.d (.str)])], []⟩
noncomputable def c_q47 : Con := ⟨sg_q47, ByteArray, fun x => M_spec_FormatInt x.1, fun r => (r, ())⟩
noncomputable def code_q47 : Code := Tryz.f165.body.getD .skip
noncomputable def body_q47_0 : Code := (loopsIn code_q47).getD 0 .skip
noncomputable def D_q47_0 : LoopD := ⟨⟨mkSlots [(0, false, [.d (.int .i64)]), (3, false, [.d (.str)])] 44 0, []⟩, [], [(.exit 0, ⟨mkSlots [(0, false, [.d (.int .i64)]), (3, false, [.d (.str)])] 44 0, []⟩, [])]⟩
noncomputable def S_q47_0_w (x : Tys D_q47_0.head.ks) : Option (OutT D_q47_0.outs) := @whileO (Int × ByteArray × Unit) (Int × ByteArray × Unit) S_spec_FormatInt_0 x
noncomputable def E_q47 : Env := ⟨layD, [], [(6, mkLM D_q47_0 S_q47_0_w)], []⟩
theorem cons_q47 : ConsOk Tryz.prog FX E_q47.cons := consOk_nil
theorem S_q47_0_ok (x : Tys D_q47_0.head.ks) : stepL E_q47 D_q47_0 body_q47_0 x = S_spec_FormatInt_0 x := by kernel_rfl
theorem loops_q47_0 : loopsIn body_q47_0 = [] := by kernel_rfl
theorem l_q47_0 : LoopOk Tryz.prog FX (mkLM D_q47_0 S_q47_0_w) body_q47_0 := loop_ok2 mix layD_ok cons_q47 (by kernel_rfl) (loops_mem loops_q47_0 (trivial)) S_q47_0_ok fun _ _ h => h
theorem loops_q47 : loopsIn code_q47 = [body_q47_0] := by kernel_rfl
theorem m_q47 : Meets Tryz.prog FX 165 c_q47 := meets_of (E := E_q47) (code := code_q47) mix layD_ok cons_q47 Tryz.func165 (by kernel_rfl) sg_q47 (by kernel_rfl) (fun y => y.1) c_q47.out (fun _ => rfl) c_q47.run (fun x => by kernel_rfl) (by kernel_rfl) (loops_mem loops_q47 (⟨⟨_, by kernel_rfl, l_q47_0⟩, trivial⟩))
noncomputable def sg_q48 : Sig := ⟨[(false, [.d (.str)]), (false, [.d (.int .i64)])], [], false, [(false, [.d (.str)])], []⟩
noncomputable def c_q48 : Con := ⟨sg_q48, ByteArray, fun x => M_spec_PadZeros x.1 x.2.1, fun r => (r, ())⟩
noncomputable def code_q48 : Code := Tryz.f166.body.getD .skip
noncomputable def body_q48_0 : Code := (loopsIn code_q48).getD 0 .skip
noncomputable def D_q48_0 : LoopD := ⟨⟨mkSlots [(0, false, [.d (.str)]), (1, false, [.d (.int .i64)])] 15 0, []⟩, [], [(.exit 0, ⟨mkSlots [(0, false, [.d (.str)])] 15 0, []⟩, [])]⟩
noncomputable def S_q48_0_w (x : Tys D_q48_0.head.ks) : Option (OutT D_q48_0.outs) := @whileO (ByteArray × Int × Unit) (ByteArray × Unit) S_spec_PadZeros_0 x
noncomputable def E_q48 : Env := ⟨layD, [], [(3, mkLM D_q48_0 S_q48_0_w)], []⟩
theorem cons_q48 : ConsOk Tryz.prog FX E_q48.cons := consOk_nil
theorem S_q48_0_ok (x : Tys D_q48_0.head.ks) : stepL E_q48 D_q48_0 body_q48_0 x = S_spec_PadZeros_0 x := by kernel_rfl
theorem loops_q48_0 : loopsIn body_q48_0 = [] := by kernel_rfl
theorem l_q48_0 : LoopOk Tryz.prog FX (mkLM D_q48_0 S_q48_0_w) body_q48_0 := loop_ok2 mix layD_ok cons_q48 (by kernel_rfl) (loops_mem loops_q48_0 (trivial)) S_q48_0_ok fun _ _ h => h
theorem loops_q48 : loopsIn code_q48 = [body_q48_0] := by kernel_rfl
theorem m_q48 : Meets Tryz.prog FX 166 c_q48 := meets_of (E := E_q48) (code := code_q48) mix layD_ok cons_q48 Tryz.func166 (by kernel_rfl) sg_q48 (by kernel_rfl) (fun y => y.1) c_q48.out (fun _ => rfl) c_q48.run (fun x => by kernel_rfl) (by kernel_rfl) (loops_mem loops_q48 (⟨⟨_, by kernel_rfl, l_q48_0⟩, trivial⟩))
noncomputable def sg_q49 : Sig := ⟨[(false, [.d (.sl .int)])], [], false, [(false, [.d (.str)])], []⟩
noncomputable def c_q49 : Con := ⟨sg_q49, ByteArray, fun x => M_spec_FormatNat x.1, fun r => (r, ())⟩
noncomputable def code_q49 : Code := Tryz.f128.body.getD .skip
noncomputable def body_q49_0 : Code := (loopsIn code_q49).getD 0 .skip
noncomputable def D_q49_0 : LoopD := ⟨⟨mkSlots [(0, false, [.d (.sl .int)]), (3, false, [.d (.str)]), (4, false, [.d (.int .i64)])] 34 0, []⟩, [], [(.exit 0, ⟨mkSlots [(3, false, [.d (.str)])] 34 0, []⟩, [])]⟩
noncomputable def S_q49_0_w (x : Tys D_q49_0.head.ks) : Option (OutT D_q49_0.outs) := @whileO ((List Int) × ByteArray × Int × Unit) (ByteArray × Unit) S_spec_FormatNat_0 x
noncomputable def E_q49 : Env := ⟨layD, [(163, c_q21), (165, c_q47), (166, c_q48)], [(7, mkLM D_q49_0 S_q49_0_w)], []⟩
theorem cons_q49 : ConsOk Tryz.prog FX E_q49.cons := consOk_cons m_q21 (callable_of Tryz.func163 (by kernel_rfl)) (consOk_cons m_q47 (callable_of Tryz.func165 (by kernel_rfl)) (consOk_cons m_q48 (callable_of Tryz.func166 (by kernel_rfl)) (consOk_nil)))
theorem S_q49_0_ok (x : Tys D_q49_0.head.ks) : stepL E_q49 D_q49_0 body_q49_0 x = S_spec_FormatNat_0 x := by kernel_rfl
theorem loops_q49_0 : loopsIn body_q49_0 = [] := by kernel_rfl
theorem l_q49_0 : LoopOk Tryz.prog FX (mkLM D_q49_0 S_q49_0_w) body_q49_0 := loop_ok2 mix layD_ok cons_q49 (by kernel_rfl) (loops_mem loops_q49_0 (trivial)) S_q49_0_ok fun _ _ h => h
theorem loops_q49 : loopsIn code_q49 = [body_q49_0] := by kernel_rfl
theorem m_q49 : Meets Tryz.prog FX 128 c_q49 := meets_of (E := E_q49) (code := code_q49) mix layD_ok cons_q49 Tryz.func128 (by kernel_rfl) sg_q49 (by kernel_rfl) (fun y => y.1) c_q49.out (fun _ => rfl) c_q49.run (fun x => by kernel_rfl) (by kernel_rfl) (loops_mem loops_q49 (⟨⟨_, by kernel_rfl, l_q49_0⟩, trivial⟩))
noncomputable def sg_q50 : Sig := ⟨[(true, [.d (.bool), .d (.sl .int)])], [], false, [(false, [.d (.str)])], []⟩
noncomputable def c_q50 : Con := ⟨sg_q50, ByteArray, fun x => M_spec_FormatBigInt (⟨x.1, x.2.1⟩ : Bg), fun r => (r, ())⟩
noncomputable def code_q50 : Code := Tryz.f127.body.getD .skip
noncomputable def E_q50 : Env := ⟨layD, [(162, c_q22), (128, c_q49)], [], []⟩
theorem cons_q50 : ConsOk Tryz.prog FX E_q50.cons := consOk_cons m_q22 (callable_of Tryz.func162 (by kernel_rfl)) (consOk_cons m_q49 (callable_of Tryz.func128 (by kernel_rfl)) (consOk_nil))
theorem loops_q50 : loopsIn code_q50 = [] := by kernel_rfl
theorem m_q50 : Meets Tryz.prog FX 127 c_q50 := meets_of (E := E_q50) (code := code_q50) mix layD_ok cons_q50 Tryz.func127 (by kernel_rfl) sg_q50 (by kernel_rfl) (fun y => y.1) c_q50.out (fun _ => rfl) c_q50.run (fun x => by kernel_rfl) (by kernel_rfl) (loops_mem loops_q50 (trivial))
noncomputable def sg_q51 : Sig := ⟨[(true, [.d (.bool), .d (.sl .int), .d (.sl .int)])], [], false, [(false, [.d (.str)])], []⟩
noncomputable def c_q51 : Con := ⟨sg_q51, ByteArray, fun x => M_spec_FormatRat (⟨x.1, x.2.1, x.2.2.1⟩ : Rt), fun r => (r, ())⟩
noncomputable def code_q51 : Code := Tryz.f79.body.getD .skip
noncomputable def E_q51 : Env := ⟨layD, [(125, c_q36), (126, c_q35), (127, c_q50), (128, c_q49)], [], [(5, [(0, []), (1, []), (4, []), (5, []), (2, [1, 0]), (3, []), (6, [5, 2, 4, 1, 0]), (7, []), (8, [7, 6, 0, 1, 2, 3, 4, 5])])]⟩
theorem cons_q51 : ConsOk Tryz.prog FX E_q51.cons := consOk_cons m_q36 (callable_of Tryz.func125 (by kernel_rfl)) (consOk_cons m_q35 (callable_of Tryz.func126 (by kernel_rfl)) (consOk_cons m_q50 (callable_of Tryz.func127 (by kernel_rfl)) (consOk_cons m_q49 (callable_of Tryz.func128 (by kernel_rfl)) (consOk_nil))))
theorem loops_q51 : loopsIn code_q51 = [] := by kernel_rfl
theorem m_q51 : Meets Tryz.prog FX 79 c_q51 := meets_of (E := E_q51) (code := code_q51) mix layD_ok cons_q51 Tryz.func79 (by kernel_rfl) sg_q51 (by kernel_rfl) (fun y => y.1) c_q51.out (fun _ => rfl) c_q51.run (fun x => by kernel_rfl) (by kernel_rfl) (loops_mem loops_q51 (trivial))
noncomputable def sg_q52 : Sig := ⟨[(false, [.d (.int .i64)])], [], false, [(false, [.d (.str)])], []⟩
noncomputable def c_q52 : Con := ⟨sg_q52, ByteArray, fun x => M_spec_KindName x.1, fun r => (r, ())⟩
noncomputable def code_q52 : Code := Tryz.f82.body.getD .skip
noncomputable def E_q52 : Env := ⟨layD, [(83, c_q19)], [], []⟩
theorem cons_q52 : ConsOk Tryz.prog FX E_q52.cons := consOk_cons m_q19 (callable_of Tryz.func83 (by kernel_rfl)) (consOk_nil)
theorem loops_q52 : loopsIn code_q52 = [] := by kernel_rfl
theorem m_q52 : Meets Tryz.prog FX 82 c_q52 := meets_of (E := E_q52) (code := code_q52) mix layD_ok cons_q52 Tryz.func82 (by kernel_rfl) sg_q52 (by kernel_rfl) (fun y => y.1) c_q52.out (fun _ => rfl) c_q52.run (fun x => by kernel_rfl) (by kernel_rfl) (loops_mem loops_q52 (trivial))
noncomputable def sg_q53 : Sig := ⟨[(true, [.d (.bool), .d (.sl .sta)]), (true, [.d (.int .i64), .d (.int .i64), .d (.int .i64), .d (.bool), .d (.sl .int), .d (.sl .int), .d (.bool), .d (.sl .int), .d (.sl .int)])], [], false, [(false, [.d (.str)])], []⟩
noncomputable def c_q53 : Con := ⟨sg_q53, ByteArray, fun x => M_spec_l12Line (⟨x.1, x.2.1⟩ : Net) (⟨x.2.2.1, x.2.2.2.1, x.2.2.2.2.1, (⟨x.2.2.2.2.2.1, x.2.2.2.2.2.2.1, x.2.2.2.2.2.2.2.1⟩ : Rt), (⟨x.2.2.2.2.2.2.2.2.1, x.2.2.2.2.2.2.2.2.2.1, x.2.2.2.2.2.2.2.2.2.2.1⟩ : Rt)⟩ : Obs), fun r => (r, ())⟩
noncomputable def code_q53 : Code := Tryz.f43.body.getD .skip
noncomputable def E_q53 : Env := ⟨layD, [(82, c_q52), (39, c_q42), (79, c_q51)], [], [(1, [(0, []), (1, []), (4, []), (5, []), (6, []), (7, []), (8, []), (9, []), (10, []), (2, [1, 0]), (3, []), (11, []), (12, [11, 2, 0, 1, 3, 4, 5, 6, 7, 8, 9, 10])]), (4, [(0, []), (1, []), (2, []), (3, []), (7, []), (8, []), (4, [3, 2]), (5, []), (6, []), (9, [8, 4, 7, 3, 2]), (10, []), (11, [10, 9, 0, 1, 2, 3, 4, 5, 6, 7, 8])])]⟩
theorem cons_q53 : ConsOk Tryz.prog FX E_q53.cons := consOk_cons m_q52 (callable_of Tryz.func82 (by kernel_rfl)) (consOk_cons m_q42 (callable_of Tryz.func39 (by kernel_rfl)) (consOk_cons m_q51 (callable_of Tryz.func79 (by kernel_rfl)) (consOk_nil)))
theorem loops_q53 : loopsIn code_q53 = [] := by kernel_rfl
theorem m_q53 : Meets Tryz.prog FX 43 c_q53 := meets_of (E := E_q53) (code := code_q53) mix layD_ok cons_q53 Tryz.func43 (by kernel_rfl) sg_q53 (by kernel_rfl) (fun y => y.1) c_q53.out (fun _ => rfl) c_q53.run (fun x => by kernel_rfl) (by kernel_rfl) (loops_mem loops_q53 (trivial))
noncomputable def sg_q54 : Sig := ⟨[(true, [.d (.bool), .d (.sl .sta), .d (.sl .obs)])], [], false, [(false, [.d (.str)])], []⟩
noncomputable def c_q54 : Con := ⟨sg_q54, ByteArray, fun x => M_spec_FormatBook (⟨x.1, x.2.1, x.2.2.1⟩ : Bk), fun r => (r, ())⟩
noncomputable def code_q54 : Code := Tryz.f34.body.getD .skip
noncomputable def body_q54_0 : Code := (loopsIn code_q54).getD 0 .skip
noncomputable def body_q54_1 : Code := (loopsIn code_q54).getD 1 .skip
noncomputable def D_q54_0 : LoopD := ⟨⟨mkSlots [(1, false, [.lp 64 0]), (3, false, [.d (.str)]), (17, false, [.d (.sl .sta)]), (18, false, [.d (.int .i64)]), (19, false, [.d (.int .i64)])] 64 0, [(64, .box [.d (.bool), .d (.sl .sta), .d (.sl .obs)])]⟩, [], [(.exit 0, ⟨mkSlots [(1, false, [.lp 64 0]), (3, false, [.d (.str)])] 64 0, [(64, .box [.d (.bool), .d (.sl .sta), .d (.sl .obs)])]⟩, [])]⟩
noncomputable def D_q54_1 : LoopD := ⟨⟨mkSlots [(1, false, [.lp 64 0]), (3, false, [.d (.str)]), (49, false, [.d (.sl .obs)]), (50, false, [.d (.int .i64)]), (51, false, [.d (.int .i64)])] 64 0, [(64, .box [.d (.bool), .d (.sl .sta), .d (.sl .obs)])]⟩, [], [(.exit 2, ⟨mkSlots [(3, false, [.d (.str)])] 64 0, []⟩, [])]⟩
noncomputable def S_q54_0_w (x : Tys D_q54_0.head.ks) : Option (OutT D_q54_0.outs) := @whileO (ByteArray × (List Sta) × Int × Int × Bool × (List Sta) × (List Obs) × Unit) (ByteArray × Bool × (List Sta) × (List Obs) × Unit) S_spec_FormatBook_0 x
noncomputable def S_q54_1_w (x : Tys D_q54_1.head.ks) : Option (OutT D_q54_1.outs) := @whileO (ByteArray × (List Obs) × Int × Int × Bool × (List Sta) × (List Obs) × Unit) (ByteArray × Unit) S_spec_FormatBook_1 x
noncomputable def E_q54 : Env := ⟨layD, [(78, c_q46), (79, c_q51), (43, c_q53)], [(7, mkLM D_q54_0 S_q54_0_w), (18, mkLM D_q54_1 S_q54_1_w)], [(12, [(0, []), (1, []), (2, []), (3, []), (4, []), (5, []), (6, []), (7, []), (8, []), (9, [8, 7]), (10, []), (11, [10, 9, 0, 1, 2, 3, 4, 5, 6, 7, 8])])]⟩
theorem cons_q54 : ConsOk Tryz.prog FX E_q54.cons := consOk_cons m_q46 (callable_of Tryz.func78 (by kernel_rfl)) (consOk_cons m_q51 (callable_of Tryz.func79 (by kernel_rfl)) (consOk_cons m_q53 (callable_of Tryz.func43 (by kernel_rfl)) (consOk_nil)))
theorem S_q54_1_ok (x : Tys D_q54_1.head.ks) : stepL E_q54 D_q54_1 body_q54_1 x = S_spec_FormatBook_1 x := by kernel_rfl
theorem loops_q54_1 : loopsIn body_q54_1 = [] := by kernel_rfl
theorem l_q54_1 : LoopOk Tryz.prog FX (mkLM D_q54_1 S_q54_1_w) body_q54_1 := loop_ok2 mix layD_ok cons_q54 (by kernel_rfl) (loops_mem loops_q54_1 (trivial)) S_q54_1_ok fun _ _ h => h
theorem S_q54_0_ok (x : Tys D_q54_0.head.ks) : stepL E_q54 D_q54_0 body_q54_0 x = S_spec_FormatBook_0 x := by kernel_rfl
theorem loops_q54_0 : loopsIn body_q54_0 = [] := by kernel_rfl
theorem l_q54_0 : LoopOk Tryz.prog FX (mkLM D_q54_0 S_q54_0_w) body_q54_0 := loop_ok2 mix layD_ok cons_q54 (by kernel_rfl) (loops_mem loops_q54_0 (trivial)) S_q54_0_ok fun _ _ h => h
theorem loops_q54 : loopsIn code_q54 = [body_q54_0, body_q54_1] := by kernel_rfl
theorem m_q54 : Meets Tryz.prog FX 34 c_q54 := meets_of (E := E_q54) (code := code_q54) mix layD_ok cons_q54 Tryz.func34 (by kernel_rfl) sg_q54 (by kernel_rfl) (fun y => y.1) c_q54.out (fun _ => rfl) c_q54.run (fun x => by kernel_rfl) (by kernel_rfl) (loops_mem loops_q54 (⟨⟨_, by kernel_rfl, l_q54_0⟩, ⟨⟨_, by kernel_rfl, l_q54_1⟩, trivial⟩⟩))
noncomputable def sg_q55 : Sig := ⟨[(false, [.d (.str)])], [], false, [(false, [.d (.bool)])], []⟩
noncomputable def c_q55 : Con := ⟨sg_q55, Bool, fun x => M_impl_IsName x.1, fun r => (r, ())⟩
noncomputable def code_q55 : Code := Tryz.f156.body.getD .skip
noncomputable def body_q55_0 : Code := (loopsIn code_q55).getD 0 .skip
noncomputable def D_q55_0 : LoopD := ⟨⟨mkSlots [(0, false, [.d (.str)]), (3, false, [.d (.int .i64)])] 50 0, []⟩, [], [(.ret, ⟨mkSlots [(2, false, [.d (.bool)])] 50 0, []⟩, []), (.exit 0, ⟨mkSlots [] 50 0, []⟩, [])]⟩
noncomputable def S_q55_0_w (x : Tys D_q55_0.head.ks) : Option (OutT D_q55_0.outs) := @whileO (ByteArray × Int × Unit) ((Bool × Unit) ⊕ (Unit)) S_impl_IsName_0 x
noncomputable def E_q55 : Env := ⟨layD, [], [(4, mkLM D_q55_0 S_q55_0_w)], []⟩
theorem cons_q55 : ConsOk Tryz.prog FX E_q55.cons := consOk_nil
theorem S_q55_0_ok (x : Tys D_q55_0.head.ks) : stepL E_q55 D_q55_0 body_q55_0 x = S_impl_IsName_0 x := by kernel_rfl
theorem loops_q55_0 : loopsIn body_q55_0 = [] := by kernel_rfl
theorem l_q55_0 : LoopOk Tryz.prog FX (mkLM D_q55_0 S_q55_0_w) body_q55_0 := loop_ok2 mix layD_ok cons_q55 (by kernel_rfl) (loops_mem loops_q55_0 (trivial)) S_q55_0_ok fun _ _ h => h
theorem loops_q55 : loopsIn code_q55 = [body_q55_0] := by kernel_rfl
theorem m_q55 : Meets Tryz.prog FX 156 c_q55 := meets_of (E := E_q55) (code := code_q55) mix layD_ok cons_q55 Tryz.func156 (by kernel_rfl) sg_q55 (by kernel_rfl) (fun y => y.1) c_q55.out (fun _ => rfl) c_q55.run (fun x => by kernel_rfl) (by kernel_rfl) (loops_mem loops_q55 (⟨⟨_, by kernel_rfl, l_q55_0⟩, trivial⟩))
noncomputable def sg_q56 : Sig := ⟨[(false, [.d (.sl .int)])], [], false, [(false, [.d (.bool)])], []⟩
noncomputable def c_q56 : Con := ⟨sg_q56, Bool, fun x => M_impl_NatOk x.1, fun r => (r, ())⟩
noncomputable def code_q56 : Code := Tryz.f142.body.getD .skip
noncomputable def body_q56_0 : Code := (loopsIn code_q56).getD 0 .skip
noncomputable def D_q56_0 : LoopD := ⟨⟨mkSlots [(22, false, [.d (.sl .int)]), (23, false, [.d (.int .i64)]), (24, false, [.d (.int .i64)])] 35 0, []⟩, [], [(.ret, ⟨mkSlots [(2, false, [.d (.bool)])] 35 0, []⟩, []), (.exit 0, ⟨mkSlots [] 35 0, []⟩, [])]⟩
noncomputable def S_q56_0_w (x : Tys D_q56_0.head.ks) : Option (OutT D_q56_0.outs) := @whileO ((List Int) × Int × Int × Unit) ((Bool × Unit) ⊕ (Unit)) S_impl_NatOk_0 x
noncomputable def E_q56 : Env := ⟨layD, [], [(4, mkLM D_q56_0 S_q56_0_w)], []⟩
theorem cons_q56 : ConsOk Tryz.prog FX E_q56.cons := consOk_nil
theorem S_q56_0_ok (x : Tys D_q56_0.head.ks) : stepL E_q56 D_q56_0 body_q56_0 x = S_impl_NatOk_0 x := by kernel_rfl
theorem loops_q56_0 : loopsIn body_q56_0 = [] := by kernel_rfl
theorem l_q56_0 : LoopOk Tryz.prog FX (mkLM D_q56_0 S_q56_0_w) body_q56_0 := loop_ok2 mix layD_ok cons_q56 (by kernel_rfl) (loops_mem loops_q56_0 (trivial)) S_q56_0_ok fun _ _ h => h
theorem loops_q56 : loopsIn code_q56 = [body_q56_0] := by kernel_rfl
theorem m_q56 : Meets Tryz.prog FX 142 c_q56 := meets_of (E := E_q56) (code := code_q56) mix layD_ok cons_q56 Tryz.func142 (by kernel_rfl) sg_q56 (by kernel_rfl) (fun y => y.1) c_q56.out (fun _ => rfl) c_q56.run (fun x => by kernel_rfl) (by kernel_rfl) (loops_mem loops_q56 (⟨⟨_, by kernel_rfl, l_q56_0⟩, trivial⟩))
noncomputable def sg_q57 : Sig := ⟨[(true, [.d (.bool), .d (.sl .int)])], [], false, [(false, [.d (.bool)])], []⟩
noncomputable def c_q57 : Con := ⟨sg_q57, Bool, fun x => M_impl_BigIntOk (⟨x.1, x.2.1⟩ : Bg), fun r => (r, ())⟩
noncomputable def code_q57 : Code := Tryz.f141.body.getD .skip
noncomputable def E_q57 : Env := ⟨layD, [(142, c_q56)], [], []⟩
theorem cons_q57 : ConsOk Tryz.prog FX E_q57.cons := consOk_cons m_q56 (callable_of Tryz.func142 (by kernel_rfl)) (consOk_nil)
theorem loops_q57 : loopsIn code_q57 = [] := by kernel_rfl
theorem m_q57 : Meets Tryz.prog FX 141 c_q57 := meets_of (E := E_q57) (code := code_q57) mix layD_ok cons_q57 Tryz.func141 (by kernel_rfl) sg_q57 (by kernel_rfl) (fun y => y.1) c_q57.out (fun _ => rfl) c_q57.run (fun x => by kernel_rfl) (by kernel_rfl) (loops_mem loops_q57 (trivial))
noncomputable def sg_q58 : Sig := ⟨[(false, [.d (.sl .int)]), (false, [.d (.sl .int)])], [], false, [(false, [.d (.int .i64)])], []⟩
noncomputable def c_q58 : Con := ⟨sg_q58, Int, fun x => M_impl_natCmp x.1 x.2.1, fun r => (r, ())⟩
noncomputable def code_q58 : Code := Tryz.f204.body.getD .skip
noncomputable def body_q58_0 : Code := (loopsIn code_q58).getD 0 .skip
noncomputable def D_q58_0 : LoopD := ⟨⟨mkSlots [(0, false, [.d (.sl .int)]), (1, false, [.d (.sl .int)]), (5, false, [.d (.int .i64)])] 43 0, []⟩, [], [(.ret, ⟨mkSlots [(4, false, [.d (.int .i64)])] 43 0, []⟩, []), (.exit 0, ⟨mkSlots [] 43 0, []⟩, [])]⟩
noncomputable def S_q58_0_w (x : Tys D_q58_0.head.ks) : Option (OutT D_q58_0.outs) := @whileO ((List Int) × (List Int) × Int × Unit) ((Int × Unit) ⊕ (Unit)) S_impl_natCmp_0 x
noncomputable def E_q58 : Env := ⟨layD, [], [(6, mkLM D_q58_0 S_q58_0_w)], [(8, [(0, []), (1, []), (2, []), (3, []), (4, []), (5, []), (6, []), (7, []), (8, []), (9, [8, 3, 7, 2, 6, 0, 1, 4, 5])]), (10, [(0, []), (1, []), (2, []), (3, []), (4, []), (5, []), (6, []), (7, []), (8, []), (9, [8, 3, 7, 2, 6, 0, 1, 4, 5])])]⟩
theorem cons_q58 : ConsOk Tryz.prog FX E_q58.cons := consOk_nil
theorem S_q58_0_ok (x : Tys D_q58_0.head.ks) : stepL E_q58 D_q58_0 body_q58_0 x = S_impl_natCmp_0 x := by kernel_rfl
theorem loops_q58_0 : loopsIn body_q58_0 = [] := by kernel_rfl
theorem l_q58_0 : LoopOk Tryz.prog FX (mkLM D_q58_0 S_q58_0_w) body_q58_0 := loop_ok2 mix layD_ok cons_q58 (by kernel_rfl) (loops_mem loops_q58_0 (trivial)) S_q58_0_ok fun _ _ h => h
theorem loops_q58 : loopsIn code_q58 = [body_q58_0] := by kernel_rfl
theorem m_q58 : Meets Tryz.prog FX 204 c_q58 := meets_of (E := E_q58) (code := code_q58) mix layD_ok cons_q58 Tryz.func204 (by kernel_rfl) sg_q58 (by kernel_rfl) (fun y => y.1) c_q58.out (fun _ => rfl) c_q58.run (fun x => by kernel_rfl) (by kernel_rfl) (loops_mem loops_q58 (⟨⟨_, by kernel_rfl, l_q58_0⟩, trivial⟩))
noncomputable def sg_q59 : Sig := ⟨[(false, [.d (.sl .int)])], [], false, [(false, [.own 0])], [(0, .arr false .int)]⟩
noncomputable def c_q59 : Con := ⟨sg_q59, List Int, fun x => M_impl_copyInts x.1, fun r => (r, ())⟩
noncomputable def code_q59 : Code := Tryz.f161.body.getD .skip
noncomputable def E_q59 : Env := ⟨layD, [], [], []⟩
theorem cons_q59 : ConsOk Tryz.prog FX E_q59.cons := consOk_nil
theorem loops_q59 : loopsIn code_q59 = [] := by kernel_rfl
theorem m_q59 : Meets Tryz.prog FX 161 c_q59 := meets_of (E := E_q59) (code := code_q59) mix layD_ok cons_q59 Tryz.func161 (by kernel_rfl) sg_q59 (by kernel_rfl) (fun y => y.1) c_q59.out (fun _ => rfl) c_q59.run (fun x => by kernel_rfl) (by kernel_rfl) (loops_mem loops_q59 (trivial))
noncomputable def sg_q60 : Sig := ⟨[(false, [.own 0])], [(0, .arr false .int)], false, [(false, [.own 0])], [(0, .arr false .int)]⟩
noncomputable def c_q60 : Con := ⟨sg_q60, List Int, fun x => M_impl_trim_c x.1, fun r => (r, ())⟩
noncomputable def code_q60 : Code := Tryz.f140.body.getD .skip
noncomputable def body_q60_0 : Code := (loopsIn code_q60).getD 0 .skip
noncomputable def D_q60_0 : LoopD := ⟨⟨mkSlots [(0, false, [.own 1408]), (3, false, [.d (.int .i64)])] 21 0, [(1408, .arr false .int)]⟩, [], [(.exit 0, ⟨mkSlots [(0, false, [.own 1408]), (3, false, [.d (.int .i64)])] 21 0, [(1408, .arr false .int)]⟩, [])]⟩
noncomputable def S_q60_0_w (x : Tys D_q60_0.head.ks) : Option (OutT D_q60_0.outs) := @whileO (Int × (List Int) × Unit) (Int × (List Int) × Unit) S_impl_trim_c_0 x
noncomputable def E_q60 : Env := ⟨layD, [], [(2, mkLM D_q60_0 S_q60_0_w)], []⟩
theorem cons_q60 : ConsOk Tryz.prog FX E_q60.cons := consOk_nil
theorem S_q60_0_ok (x : Tys D_q60_0.head.ks) : stepL E_q60 D_q60_0 body_q60_0 x = S_impl_trim_c_0 x := by kernel_rfl
theorem loops_q60_0 : loopsIn body_q60_0 = [] := by kernel_rfl
theorem l_q60_0 : LoopOk Tryz.prog FX (mkLM D_q60_0 S_q60_0_w) body_q60_0 := loop_ok2 mix layD_ok cons_q60 (by kernel_rfl) (loops_mem loops_q60_0 (trivial)) S_q60_0_ok fun _ _ h => h
theorem loops_q60 : loopsIn code_q60 = [body_q60_0] := by kernel_rfl
theorem m_q60 : Meets Tryz.prog FX 140 c_q60 := meets_of (E := E_q60) (code := code_q60) mix layD_ok cons_q60 Tryz.func140 (by kernel_rfl) sg_q60 (by kernel_rfl) (fun y => y.1) c_q60.out (fun _ => rfl) c_q60.run (fun x => by kernel_rfl) (by kernel_rfl) (loops_mem loops_q60 (⟨⟨_, by kernel_rfl, l_q60_0⟩, trivial⟩))
noncomputable def sg_q61 : Sig := ⟨[(false, [.d (.int .i64)])], [], false, [(false, [.own 0])], [(0, .arr false .int)]⟩
noncomputable def c_q61 : Con := ⟨sg_q61, List Int, fun x => M_impl_NatOf x.1, fun r => (r, ())⟩
noncomputable def code_q61 : Code := Tryz.f229.body.getD .skip
noncomputable def body_q61_0 : Code := (loopsIn code_q61).getD 0 .skip
noncomputable def D_q61_0 : LoopD := ⟨⟨mkSlots [(0, false, [.d (.int .i64)]), (3, false, [.own 960])] 14 0, [(960, .arr false .int)]⟩, [(.slot 3 0, 960, .int)], [(.exit 0, ⟨mkSlots [(3, false, [.own 960])] 14 0, [(960, .arr false .int)]⟩, [(.slot 3 0, 960, .int)])]⟩
noncomputable def S_q61_0_w (x : Tys D_q61_0.head.ks) : Option (OutT D_q61_0.outs) := @whileO (Int × (List Int) × Unit) ((List Int) × Unit) S_impl_NatOf_0 x
noncomputable def E_q61 : Env := ⟨layD, [], [(2, mkLM D_q61_0 S_q61_0_w)], []⟩
theorem cons_q61 : ConsOk Tryz.prog FX E_q61.cons := consOk_nil
theorem S_q61_0_ok (x : Tys D_q61_0.head.ks) : stepL E_q61 D_q61_0 body_q61_0 x = S_impl_NatOf_0 x := by kernel_rfl
theorem loops_q61_0 : loopsIn body_q61_0 = [] := by kernel_rfl
theorem l_q61_0 : LoopOk Tryz.prog FX (mkLM D_q61_0 S_q61_0_w) body_q61_0 := loop_ok2 mix layD_ok cons_q61 (by kernel_rfl) (loops_mem loops_q61_0 (trivial)) S_q61_0_ok fun _ _ h => h
theorem loops_q61 : loopsIn code_q61 = [body_q61_0] := by kernel_rfl
theorem m_q61 : Meets Tryz.prog FX 229 c_q61 := meets_of (E := E_q61) (code := code_q61) mix layD_ok cons_q61 Tryz.func229 (by kernel_rfl) sg_q61 (by kernel_rfl) (fun y => y.1) c_q61.out (fun _ => rfl) c_q61.run (fun x => by kernel_rfl) (by kernel_rfl) (loops_mem loops_q61 (⟨⟨_, by kernel_rfl, l_q61_0⟩, trivial⟩))
noncomputable def sg_q62 : Sig := ⟨[(false, [.d (.sl .int)]), (false, [.d (.int .i64)])], [], true, [(false, [.own 0]), (false, [.own 1])], [(0, .arr false .int), (1, .arr false .int)]⟩
noncomputable def c_q62 : Con := ⟨sg_q62, List Int × List Int, fun x => M_impl_divSmall x.1 x.2.1, fun r => (r.1, r.2, ())⟩
noncomputable def code_q62 : Code := Tryz.f205.body.getD .skip
noncomputable def body_q62_0 : Code := (loopsIn code_q62).getD 0 .skip
noncomputable def D_q62_0 : LoopD := ⟨⟨mkSlots [(0, false, [.d (.sl .int)]), (1, false, [.d (.int .i64)]), (6, false, [.own 2624]), (7, false, [.d (.int .i64)]), (8, false, [.d (.int .i64)])] 40 0, [(2624, .arr false .int)]⟩, [], [(.exit 0, ⟨mkSlots [(6, false, [.own 2624]), (7, false, [.d (.int .i64)])] 40 0, [(2624, .arr false .int)]⟩, [])]⟩
noncomputable def S_q62_0_w (x : Tys D_q62_0.head.ks) : Option (OutT D_q62_0.outs) := @whileO ((List Int) × Int × Int × Int × (List Int) × Unit) (Int × (List Int) × Unit) S_impl_divSmall_0 x
noncomputable def E_q62 : Env := ⟨layD, [(140, c_q60), (229, c_q61)], [(4, mkLM D_q62_0 S_q62_0_w)], []⟩
theorem cons_q62 : ConsOk Tryz.prog FX E_q62.cons := consOk_cons m_q60 (callable_of Tryz.func140 (by kernel_rfl)) (consOk_cons m_q61 (callable_of Tryz.func229 (by kernel_rfl)) (consOk_nil))
theorem S_q62_0_ok (x : Tys D_q62_0.head.ks) : stepL E_q62 D_q62_0 body_q62_0 x = S_impl_divSmall_0 x := by kernel_rfl
theorem loops_q62_0 : loopsIn body_q62_0 = [] := by kernel_rfl
theorem l_q62_0 : LoopOk Tryz.prog FX (mkLM D_q62_0 S_q62_0_w) body_q62_0 := loop_ok2 mix layD_ok cons_q62 (by kernel_rfl) (loops_mem loops_q62_0 (trivial)) S_q62_0_ok fun _ _ h => h
theorem loops_q62 : loopsIn code_q62 = [body_q62_0] := by kernel_rfl
theorem m_q62 : Meets Tryz.prog FX 205 c_q62 := meets_of (E := E_q62) (code := code_q62) mix layD_ok cons_q62 Tryz.func205 (by kernel_rfl) sg_q62 (by kernel_rfl) (fun y => (y.1, y.2.1)) c_q62.out (fun _ => rfl) c_q62.run (fun x => by kernel_rfl) (by kernel_rfl) (loops_mem loops_q62 (⟨⟨_, by kernel_rfl, l_q62_0⟩, trivial⟩))
noncomputable def sg_q63 : Sig := ⟨[(false, [.d (.sl .int)]), (false, [.d (.sl .int)])], [], false, [(false, [.own 0])], [(0, .arr false .int)]⟩
noncomputable def c_q63 : Con := ⟨sg_q63, List Int, fun x => M_impl_natMul x.1 x.2.1, fun r => (r, ())⟩
noncomputable def code_q63 : Code := Tryz.f206.body.getD .skip
noncomputable def body_q63_0 : Code := (loopsIn code_q63).getD 0 .skip
noncomputable def body_q63_1 : Code := (loopsIn body_q63_0).getD 0 .skip
noncomputable def D_q63_0 : LoopD := ⟨⟨mkSlots [(1, false, [.d (.sl .int)]), (5, false, [.own 4352]), (18, false, [.d (.sl .int)]), (19, false, [.d (.int .i64)]), (20, false, [.d (.int .i64)])] 67 0, [(4352, .arr false .int)]⟩, [], [(.exit 0, ⟨mkSlots [(5, false, [.own 4352])] 67 0, [(4352, .arr false .int)]⟩, [])]⟩
noncomputable def D_q63_1 : LoopD := ⟨⟨mkSlots [(1, false, [.d (.sl .int)]), (5, false, [.own 4352]), (6, false, [.d (.int .i64)]), (7, false, [.d (.int .i64)]), (8, false, [.d (.int .i64)]), (18, false, [.d (.sl .int)]), (19, false, [.d (.int .i64)]), (20, false, [.d (.int .i64)]), (25, false, [.d (.sl .int)]), (26, false, [.d (.int .i64)]), (27, false, [.d (.int .i64)])] 67 0, [(4352, .arr false .int)]⟩, [], [(.exit 2, ⟨mkSlots [(1, false, [.d (.sl .int)]), (5, false, [.own 4352]), (6, false, [.d (.int .i64)]), (8, false, [.d (.int .i64)]), (18, false, [.d (.sl .int)]), (19, false, [.d (.int .i64)]), (20, false, [.d (.int .i64)])] 67 0, [(4352, .arr false .int)]⟩, [])]⟩
noncomputable def S_q63_0_w (x : Tys D_q63_0.head.ks) : Option (OutT D_q63_0.outs) := @whileO ((List Int) × (List Int) × Int × Int × (List Int) × Unit) ((List Int) × Unit) S_impl_natMul_0 x
noncomputable def S_q63_1_w (x : Tys D_q63_1.head.ks) : Option (OutT D_q63_1.outs) := @whileO ((List Int) × Int × Int × Int × (List Int) × Int × Int × (List Int) × Int × Int × (List Int) × Unit) ((List Int) × Int × Int × (List Int) × Int × Int × (List Int) × Unit) S_impl_natMul_1 x
noncomputable def E_q63 : Env := ⟨layD, [(140, c_q60)], [(3, mkLM D_q63_0 S_q63_0_w), (7, mkLM D_q63_1 S_q63_1_w)], []⟩
theorem cons_q63 : ConsOk Tryz.prog FX E_q63.cons := consOk_cons m_q60 (callable_of Tryz.func140 (by kernel_rfl)) (consOk_nil)
theorem S_q63_1_ok (x : Tys D_q63_1.head.ks) : stepL E_q63 D_q63_1 body_q63_1 x = S_impl_natMul_1 x := by kernel_rfl
theorem loops_q63_1 : loopsIn body_q63_1 = [] := by kernel_rfl
theorem l_q63_1 : LoopOk Tryz.prog FX (mkLM D_q63_1 S_q63_1_w) body_q63_1 := loop_ok2 mix layD_ok cons_q63 (by kernel_rfl) (loops_mem loops_q63_1 (trivial)) S_q63_1_ok fun _ _ h => h
theorem S_q63_0_ok (x : Tys D_q63_0.head.ks) : stepL E_q63 D_q63_0 body_q63_0 x = S_impl_natMul_0 x := by kernel_rfl
theorem loops_q63_0 : loopsIn body_q63_0 = [body_q63_1] := by kernel_rfl
theorem l_q63_0 : LoopOk Tryz.prog FX (mkLM D_q63_0 S_q63_0_w) body_q63_0 := loop_ok2 mix layD_ok cons_q63 (by kernel_rfl) (loops_mem loops_q63_0 (⟨⟨_, by kernel_rfl, l_q63_1⟩, trivial⟩)) S_q63_0_ok fun _ _ h => h
theorem loops_q63 : loopsIn code_q63 = [body_q63_0] := by kernel_rfl
theorem m_q63 : Meets Tryz.prog FX 206 c_q63 := meets_of (E := E_q63) (code := code_q63) mix layD_ok cons_q63 Tryz.func206 (by kernel_rfl) sg_q63 (by kernel_rfl) (fun y => y.1) c_q63.out (fun _ => rfl) c_q63.run (fun x => by kernel_rfl) (by kernel_rfl) (loops_mem loops_q63 (⟨⟨_, by kernel_rfl, l_q63_0⟩, trivial⟩))
noncomputable def sg_q64 : Sig := ⟨[(false, [.d (.sl .int)]), (false, [.d (.sl .int)])], [], true, [(false, [.own 0]), (false, [.own 1])], [(0, .arr false .int), (1, .arr false .int)]⟩
noncomputable def c_q64 : Con := ⟨sg_q64, List Int × List Int, fun x => M_impl_natDiv x.1 x.2.1, fun r => (r.1, r.2, ())⟩
noncomputable def code_q64 : Code := Tryz.f174.body.getD .skip
noncomputable def body_q64_0 : Code := (loopsIn code_q64).getD 0 .skip
noncomputable def body_q64_1 : Code := (loopsIn code_q64).getD 1 .skip
noncomputable def body_q64_2 : Code := (loopsIn body_q64_1).getD 0 .skip
noncomputable def body_q64_3 : Code := (loopsIn body_q64_1).getD 1 .skip
noncomputable def body_q64_4 : Code := (loopsIn body_q64_1).getD 2 .skip
noncomputable def D_q64_0 : LoopD := ⟨⟨mkSlots [(0, false, [.d (.sl .int)]), (6, false, [.d (.int .i64)]), (7, false, [.own 15360]), (8, false, [.own 15424]), (9, false, [.d (.int .i64)])] 239 0, [(15360, .arr false .int), (15424, .arr false .int)]⟩, [], [(.exit 0, ⟨mkSlots [(6, false, [.d (.int .i64)]), (7, false, [.own 15360]), (8, false, [.own 15424]), (9, false, [.d (.int .i64)])] 239 0, [(15360, .arr false .int), (15424, .arr false .int)]⟩, [])]⟩
noncomputable def D_q64_1 : LoopD := ⟨⟨mkSlots [(6, false, [.d (.int .i64)]), (7, false, [.own 15360]), (8, false, [.own 15424]), (9, false, [.d (.int .i64)]), (10, false, [.own 15488]), (11, false, [.d (.int .i64)]), (12, false, [.d (.int .i64)])] 239 0, [(15360, .arr false .int), (15424, .arr false .int), (15488, .arr false .int)]⟩, [], [(.exit 2, ⟨mkSlots [(6, false, [.d (.int .i64)]), (7, false, [.own 15360]), (10, false, [.own 15488])] 239 0, [(15360, .arr false .int), (15488, .arr false .int)]⟩, [])]⟩
noncomputable def D_q64_2 : LoopD := ⟨⟨mkSlots [(6, false, [.d (.int .i64)]), (7, false, [.own 15360]), (8, false, [.own 15424]), (9, false, [.d (.int .i64)]), (10, false, [.own 15488]), (11, false, [.d (.int .i64)]), (12, false, [.d (.int .i64)]), (14, false, [.d (.int .i64)]), (15, false, [.d (.int .i64)])] 239 0, [(15360, .arr false .int), (15424, .arr false .int), (15488, .arr false .int)]⟩, [], [(.exit 4, ⟨mkSlots [(6, false, [.d (.int .i64)]), (7, false, [.own 15360]), (8, false, [.own 15424]), (9, false, [.d (.int .i64)]), (10, false, [.own 15488]), (11, false, [.d (.int .i64)]), (12, false, [.d (.int .i64)]), (14, false, [.d (.int .i64)])] 239 0, [(15360, .arr false .int), (15424, .arr false .int), (15488, .arr false .int)]⟩, [])]⟩
noncomputable def D_q64_3 : LoopD := ⟨⟨mkSlots [(6, false, [.d (.int .i64)]), (7, false, [.own 15360]), (8, false, [.own 15424]), (9, false, [.d (.int .i64)]), (10, false, [.own 15488]), (11, false, [.d (.int .i64)]), (12, false, [.d (.int .i64)]), (14, false, [.d (.int .i64)]), (16, false, [.d (.int .i64)]), (135, false, [.d (.int .i64)]), (136, false, [.d (.int .i64)])] 239 0, [(15360, .arr false .int), (15424, .arr false .int), (15488, .arr false .int)]⟩, [], [(.exit 6, ⟨mkSlots [(6, false, [.d (.int .i64)]), (7, false, [.own 15360]), (8, false, [.own 15424]), (9, false, [.d (.int .i64)]), (10, false, [.own 15488]), (11, false, [.d (.int .i64)]), (12, false, [.d (.int .i64)]), (14, false, [.d (.int .i64)]), (16, false, [.d (.int .i64)])] 239 0, [(15360, .arr false .int), (15424, .arr false .int), (15488, .arr false .int)]⟩, [])]⟩
noncomputable def D_q64_4 : LoopD := ⟨⟨mkSlots [(6, false, [.d (.int .i64)]), (7, false, [.own 15360]), (8, false, [.own 15424]), (9, false, [.d (.int .i64)]), (10, false, [.own 15488]), (11, false, [.d (.int .i64)]), (12, false, [.d (.int .i64)]), (14, false, [.d (.int .i64)]), (19, false, [.d (.int .i64)]), (188, false, [.d (.int .i64)]), (189, false, [.d (.int .i64)])] 239 0, [(15360, .arr false .int), (15424, .arr false .int), (15488, .arr false .int)]⟩, [], [(.exit 8, ⟨mkSlots [(6, false, [.d (.int .i64)]), (7, false, [.own 15360]), (8, false, [.own 15424]), (9, false, [.d (.int .i64)]), (10, false, [.own 15488]), (11, false, [.d (.int .i64)]), (12, false, [.d (.int .i64)]), (14, false, [.d (.int .i64)]), (19, false, [.d (.int .i64)])] 239 0, [(15360, .arr false .int), (15424, .arr false .int), (15488, .arr false .int)]⟩, [])]⟩
noncomputable def S_q64_0_w (x : Tys D_q64_0.head.ks) : Option (OutT D_q64_0.outs) := @whileO ((List Int) × Int × Int × (List Int) × (List Int) × Unit) (Int × Int × (List Int) × (List Int) × Unit) S_impl_natDiv_0 x
noncomputable def S_q64_1_w (x : Tys D_q64_1.head.ks) : Option (OutT D_q64_1.outs) := @whileO (Int × Int × Int × Int × (List Int) × (List Int) × (List Int) × Unit) (Int × (List Int) × (List Int) × Unit) S_impl_natDiv_1 x
noncomputable def S_q64_2_w (x : Tys D_q64_2.head.ks) : Option (OutT D_q64_2.outs) := @whileO (Int × Int × Int × Int × Int × Int × (List Int) × (List Int) × (List Int) × Unit) (Int × Int × Int × Int × Int × (List Int) × (List Int) × (List Int) × Unit) S_impl_natDiv_2 x
noncomputable def S_q64_3_w (x : Tys D_q64_3.head.ks) : Option (OutT D_q64_3.outs) := @whileO (Int × Int × Int × Int × Int × Int × Int × Int × (List Int) × (List Int) × (List Int) × Unit) (Int × Int × Int × Int × Int × Int × (List Int) × (List Int) × (List Int) × Unit) S_impl_natDiv_3 x
noncomputable def S_q64_4_w (x : Tys D_q64_4.head.ks) : Option (OutT D_q64_4.outs) := @whileO (Int × Int × Int × Int × Int × Int × Int × Int × (List Int) × (List Int) × (List Int) × Unit) (Int × Int × Int × Int × Int × Int × (List Int) × (List Int) × (List Int) × Unit) S_impl_natDiv_4 x
noncomputable def E_q64 : Env := ⟨layD, [(204, c_q58), (161, c_q59), (205, c_q62), (206, c_q63), (140, c_q60)], [(9, mkLM D_q64_0 S_q64_0_w), (14, mkLM D_q64_1 S_q64_1_w), (18, mkLM D_q64_2 S_q64_2_w), (24, mkLM D_q64_3 S_q64_3_w), (38, mkLM D_q64_4 S_q64_4_w)], [(16, [(0, []), (1, []), (2, []), (3, []), (4, []), (5, []), (6, []), (7, []), (8, []), (9, []), (10, []), (11, []), (12, []), (13, []), (14, []), (15, [14, 0, 1, 2, 3, 4, 5, 6, 7, 8, 9, 10, 11, 12, 13])]), (17, [(0, []), (1, []), (2, []), (3, []), (4, []), (5, []), (6, [2, 0, 1]), (7, [5, 6, 0, 1, 2, 3, 4])]), (18, [(0, []), (1, []), (2, []), (3, []), (4, []), (5, []), (6, []), (7, []), (8, []), (9, []), (10, []), (11, []), (12, []), (13, []), (14, []), (15, []), (16, []), (17, []), (18, []), (19, []), (20, []), (21, [])]), (26, [(0, []), (1, []), (2, []), (3, []), (4, []), (5, []), (6, []), (7, []), (8, []), (9, []), (10, []), (11, []), (12, []), (13, []), (14, []), (15, [14, 0, 1, 2, 3, 4, 5, 6, 7, 8, 9, 10, 11, 12, 13])]), (40, [(0, []), (1, []), (2, []), (3, []), (4, []), (5, []), (6, []), (7, []), (8, []), (9, []), (10, []), (11, []), (12, []), (13, [12, 0, 1, 2, 3, 4, 5, 6, 7, 8, 9, 10, 11])])]⟩
theorem cons_q64 : ConsOk Tryz.prog FX E_q64.cons := consOk_cons m_q58 (callable_of Tryz.func204 (by kernel_rfl)) (consOk_cons m_q59 (callable_of Tryz.func161 (by kernel_rfl)) (consOk_cons m_q62 (callable_of Tryz.func205 (by kernel_rfl)) (consOk_cons m_q63 (callable_of Tryz.func206 (by kernel_rfl)) (consOk_cons m_q60 (callable_of Tryz.func140 (by kernel_rfl)) (consOk_nil)))))
theorem S_q64_4_ok (x : Tys D_q64_4.head.ks) : stepL E_q64 D_q64_4 body_q64_4 x = S_impl_natDiv_4 x := by kernel_rfl
theorem loops_q64_4 : loopsIn body_q64_4 = [] := by kernel_rfl
theorem l_q64_4 : LoopOk Tryz.prog FX (mkLM D_q64_4 S_q64_4_w) body_q64_4 := loop_ok2 mix layD_ok cons_q64 (by kernel_rfl) (loops_mem loops_q64_4 (trivial)) S_q64_4_ok fun _ _ h => h
theorem S_q64_3_ok (x : Tys D_q64_3.head.ks) : stepL E_q64 D_q64_3 body_q64_3 x = S_impl_natDiv_3 x := by kernel_rfl
theorem loops_q64_3 : loopsIn body_q64_3 = [] := by kernel_rfl
theorem l_q64_3 : LoopOk Tryz.prog FX (mkLM D_q64_3 S_q64_3_w) body_q64_3 := loop_ok2 mix layD_ok cons_q64 (by kernel_rfl) (loops_mem loops_q64_3 (trivial)) S_q64_3_ok fun _ _ h => h
theorem S_q64_2_ok (x : Tys D_q64_2.head.ks) : stepL E_q64 D_q64_2 body_q64_2 x = S_impl_natDiv_2 x := by kernel_rfl
theorem loops_q64_2 : loopsIn body_q64_2 = [] := by kernel_rfl
theorem l_q64_2 : LoopOk Tryz.prog FX (mkLM D_q64_2 S_q64_2_w) body_q64_2 := loop_ok2 mix layD_ok cons_q64 (by kernel_rfl) (loops_mem loops_q64_2 (trivial)) S_q64_2_ok fun _ _ h => h
theorem S_q64_1_ok (x : Tys D_q64_1.head.ks) : stepL E_q64 D_q64_1 body_q64_1 x = S_impl_natDiv_1 x := by kernel_rfl
theorem loops_q64_1 : loopsIn body_q64_1 = [body_q64_2, body_q64_3, body_q64_4] := by kernel_rfl
theorem l_q64_1 : LoopOk Tryz.prog FX (mkLM D_q64_1 S_q64_1_w) body_q64_1 := loop_ok2 mix layD_ok cons_q64 (by kernel_rfl) (loops_mem loops_q64_1 (⟨⟨_, by kernel_rfl, l_q64_2⟩, ⟨⟨_, by kernel_rfl, l_q64_3⟩, ⟨⟨_, by kernel_rfl, l_q64_4⟩, trivial⟩⟩⟩)) S_q64_1_ok fun _ _ h => h
theorem S_q64_0_ok (x : Tys D_q64_0.head.ks) : stepL E_q64 D_q64_0 body_q64_0 x = S_impl_natDiv_0 x := by kernel_rfl
theorem loops_q64_0 : loopsIn body_q64_0 = [] := by kernel_rfl
theorem l_q64_0 : LoopOk Tryz.prog FX (mkLM D_q64_0 S_q64_0_w) body_q64_0 := loop_ok2 mix layD_ok cons_q64 (by kernel_rfl) (loops_mem loops_q64_0 (trivial)) S_q64_0_ok fun _ _ h => h
theorem loops_q64 : loopsIn code_q64 = [body_q64_0, body_q64_1] := by kernel_rfl
theorem m_q64 : Meets Tryz.prog FX 174 c_q64 := meets_of (E := E_q64) (code := code_q64) mix layD_ok cons_q64 Tryz.func174 (by kernel_rfl) sg_q64 (by kernel_rfl) (fun y => (y.1, y.2.1)) c_q64.out (fun _ => rfl) c_q64.run (fun x => by kernel_rfl) (by kernel_rfl) (loops_mem loops_q64 (⟨⟨_, by kernel_rfl, l_q64_0⟩, ⟨⟨_, by kernel_rfl, l_q64_1⟩, trivial⟩⟩))
noncomputable def sg_q65 : Sig := ⟨[(false, [.d (.sl .int)]), (false, [.d (.sl .int)])], [], false, [(false, [.own 0])], [(0, .arr false .int)]⟩
noncomputable def c_q65 : Con := ⟨sg_q65, List Int, fun x => M_impl_natGcd x.1 x.2.1, fun r => (r, ())⟩
noncomputable def code_q65 : Code := Tryz.f143.body.getD .skip
noncomputable def body_q65_0 : Code := (loopsIn code_q65).getD 0 .skip
noncomputable def body_q65_1 : Code := (loopsIn code_q65).getD 1 .skip
noncomputable def D_q65_0 : LoopD := ⟨⟨mkSlots [(0, false, [.d (.sl .int)]), (1, false, [.d (.sl .int)])] 49 0, []⟩, [], [(.exit 0, ⟨mkSlots [(0, false, [.d (.sl .int)]), (1, false, [.d (.sl .int)])] 49 0, []⟩, [])]⟩
noncomputable def D_q65_1 : LoopD := ⟨⟨mkSlots [(7, false, [.d (.int .i64)]), (8, false, [.d (.int .i64)])] 49 0, []⟩, [], [(.exit 2, ⟨mkSlots [(7, false, [.d (.int .i64)])] 49 0, []⟩, [])]⟩
noncomputable def S_q65_0_w (x : Tys D_q65_0.head.ks) : Option (OutT D_q65_0.outs) := @whileO ((List Int) × (List Int) × Unit) ((List Int) × (List Int) × Unit) S_impl_natGcd_0 x
noncomputable def S_q65_1_w (x : Tys D_q65_1.head.ks) : Option (OutT D_q65_1.outs) := @whileO (Int × Int × Unit) (Int × Unit) S_impl_natGcd_1 x
noncomputable def E_q65 : Env := ⟨layD, [(174, c_q64), (161, c_q59)], [(1, mkLM D_q65_0 S_q65_0_w), (7, mkLM D_q65_1 S_q65_1_w)], [(6, [(0, []), (1, []), (2, []), (3, []), (4, []), (5, []), (6, [2, 0, 1]), (7, [5, 6, 0, 1, 2, 3, 4])]), (8, [(0, []), (1, []), (2, []), (3, []), (4, [0, 1]), (5, [3, 4, 0, 1, 2])])]⟩
theorem cons_q65 : ConsOk Tryz.prog FX E_q65.cons := consOk_cons m_q64 (callable_of Tryz.func174 (by kernel_rfl)) (consOk_cons m_q59 (callable_of Tryz.func161 (by kernel_rfl)) (consOk_nil))
theorem S_q65_1_ok (x : Tys D_q65_1.head.ks) : stepL E_q65 D_q65_1 body_q65_1 x = S_impl_natGcd_1 x := by kernel_rfl
theorem loops_q65_1 : loopsIn body_q65_1 = [] := by kernel_rfl
theorem l_q65_1 : LoopOk Tryz.prog FX (mkLM D_q65_1 S_q65_1_w) body_q65_1 := loop_ok2 mix layD_ok cons_q65 (by kernel_rfl) (loops_mem loops_q65_1 (trivial)) S_q65_1_ok fun _ _ h => h
theorem S_q65_0_ok (x : Tys D_q65_0.head.ks) : stepL E_q65 D_q65_0 body_q65_0 x = S_impl_natGcd_0 x := by kernel_rfl
theorem loops_q65_0 : loopsIn body_q65_0 = [] := by kernel_rfl
theorem l_q65_0 : LoopOk Tryz.prog FX (mkLM D_q65_0 S_q65_0_w) body_q65_0 := loop_ok2 mix layD_ok cons_q65 (by kernel_rfl) (loops_mem loops_q65_0 (trivial)) S_q65_0_ok fun _ _ h => h
theorem loops_q65 : loopsIn code_q65 = [body_q65_0, body_q65_1] := by kernel_rfl
theorem m_q65 : Meets Tryz.prog FX 143 c_q65 := meets_of (E := E_q65) (code := code_q65) mix layD_ok cons_q65 Tryz.func143 (by kernel_rfl) sg_q65 (by kernel_rfl) (fun y => y.1) c_q65.out (fun _ => rfl) c_q65.run (fun x => by kernel_rfl) (by kernel_rfl) (loops_mem loops_q65 (⟨⟨_, by kernel_rfl, l_q65_0⟩, ⟨⟨_, by kernel_rfl, l_q65_1⟩, trivial⟩⟩))
noncomputable def sg_q66 : Sig := ⟨[(false, [.d (.sl .int)])], [], false, [(false, [.d (.bool)])], []⟩
noncomputable def c_q66 : Con := ⟨sg_q66, Bool, fun x => M_impl_isOne x.1, fun r => (r, ())⟩
noncomputable def code_q66 : Code := Tryz.f110.body.getD .skip
noncomputable def E_q66 : Env := ⟨layD, [], [], []⟩
theorem cons_q66 : ConsOk Tryz.prog FX E_q66.cons := consOk_nil
theorem loops_q66 : loopsIn code_q66 = [] := by kernel_rfl
theorem m_q66 : Meets Tryz.prog FX 110 c_q66 := meets_of (E := E_q66) (code := code_q66) mix layD_ok cons_q66 Tryz.func110 (by kernel_rfl) sg_q66 (by kernel_rfl) (fun y => y.1) c_q66.out (fun _ => rfl) c_q66.run (fun x => by kernel_rfl) (by kernel_rfl) (loops_mem loops_q66 (trivial))
noncomputable def sg_q67 : Sig := ⟨[(true, [.d (.bool), .d (.sl .int), .d (.sl .int)])], [], false, [(false, [.d (.bool)])], []⟩
noncomputable def c_q67 : Con := ⟨sg_q67, Bool, fun x => M_impl_RatOk (⟨x.1, x.2.1, x.2.2.1⟩ : Rt), fun r => (r, ())⟩
noncomputable def code_q67 : Code := Tryz.f93.body.getD .skip
noncomputable def E_q67 : Env := ⟨layD, [(141, c_q57), (142, c_q56), (143, c_q65), (110, c_q66)], [], []⟩
theorem cons_q67 : ConsOk Tryz.prog FX E_q67.cons := consOk_cons m_q57 (callable_of Tryz.func141 (by kernel_rfl)) (consOk_cons m_q56 (callable_of Tryz.func142 (by kernel_rfl)) (consOk_cons m_q65 (callable_of Tryz.func143 (by kernel_rfl)) (consOk_cons m_q66 (callable_of Tryz.func110 (by kernel_rfl)) (consOk_nil))))
theorem loops_q67 : loopsIn code_q67 = [] := by kernel_rfl
theorem m_q67 : Meets Tryz.prog FX 93 c_q67 := meets_of (E := E_q67) (code := code_q67) mix layD_ok cons_q67 Tryz.func93 (by kernel_rfl) sg_q67 (by kernel_rfl) (fun y => y.1) c_q67.out (fun _ => rfl) c_q67.run (fun x => by kernel_rfl) (by kernel_rfl) (loops_mem loops_q67 (trivial))
noncomputable def sg_q68 : Sig := ⟨[(true, [.d (.bool), .d (.sl .int), .d (.sl .int)])], [], false, [(false, [.d (.bool)])], []⟩
noncomputable def c_q68 : Con := ⟨sg_q68, Bool, fun x => M_impl_isZero (⟨x.1, x.2.1, x.2.2.1⟩ : Rt), fun r => (r, ())⟩
noncomputable def code_q68 : Code := Tryz.f157.body.getD .skip
noncomputable def E_q68 : Env := ⟨layD, [], [], []⟩
theorem cons_q68 : ConsOk Tryz.prog FX E_q68.cons := consOk_nil
theorem loops_q68 : loopsIn code_q68 = [] := by kernel_rfl
theorem m_q68 : Meets Tryz.prog FX 157 c_q68 := meets_of (E := E_q68) (code := code_q68) mix layD_ok cons_q68 Tryz.func157 (by kernel_rfl) sg_q68 (by kernel_rfl) (fun y => y.1) c_q68.out (fun _ => rfl) c_q68.run (fun x => by kernel_rfl) (by kernel_rfl) (loops_mem loops_q68 (trivial))
noncomputable def sg_q69 : Sig := ⟨[(true, [.d (.str), .d (.bool), .d (.sl .int), .d (.sl .int), .d (.bool), .d (.sl .int), .d (.sl .int), .d (.bool)]), (false, [.d (.bool)])], [], false, [(false, [.d (.bool)])], []⟩
noncomputable def c_q69 : Con := ⟨sg_q69, Bool, fun x => M_impl_StationOk (⟨x.1, (⟨x.2.1, x.2.2.1, x.2.2.2.1⟩ : Rt), (⟨x.2.2.2.2.1, x.2.2.2.2.2.1, x.2.2.2.2.2.2.1⟩ : Rt), x.2.2.2.2.2.2.2.1⟩ : Sta) x.2.2.2.2.2.2.2.2.1, fun r => (r, ())⟩
noncomputable def code_q69 : Code := Tryz.f114.body.getD .skip
noncomputable def E_q69 : Env := ⟨layD, [(156, c_q55), (93, c_q67), (157, c_q68)], [], []⟩
theorem cons_q69 : ConsOk Tryz.prog FX E_q69.cons := consOk_cons m_q55 (callable_of Tryz.func156 (by kernel_rfl)) (consOk_cons m_q67 (callable_of Tryz.func93 (by kernel_rfl)) (consOk_cons m_q68 (callable_of Tryz.func157 (by kernel_rfl)) (consOk_nil)))
theorem loops_q69 : loopsIn code_q69 = [] := by kernel_rfl
theorem m_q69 : Meets Tryz.prog FX 114 c_q69 := meets_of (E := E_q69) (code := code_q69) mix layD_ok cons_q69 Tryz.func114 (by kernel_rfl) sg_q69 (by kernel_rfl) (fun y => y.1) c_q69.out (fun _ => rfl) c_q69.run (fun x => by kernel_rfl) (by kernel_rfl) (loops_mem loops_q69 (trivial))
noncomputable def sg_q70 : Sig := ⟨[(true, [.d (.bool), .d (.sl .sta)]), (false, [.d (.str)])], [], false, [(false, [.d (.int .i64)])], []⟩
noncomputable def c_q70 : Con := ⟨sg_q70, Int, fun x => M_impl_FindStation (⟨x.1, x.2.1⟩ : Net) x.2.2.1, fun r => (r, ())⟩
noncomputable def code_q70 : Code := Tryz.f48.body.getD .skip
noncomputable def body_q70_0 : Code := (loopsIn code_q70).getD 0 .skip
noncomputable def D_q70_0 : LoopD := ⟨⟨mkSlots [(1, false, [.d (.str)]), (8, false, [.d (.sl .sta)]), (9, false, [.d (.int .i64)]), (10, false, [.d (.int .i64)])] 21 0, []⟩, [], [(.ret, ⟨mkSlots [(4, false, [.d (.int .i64)])] 21 0, []⟩, []), (.exit 0, ⟨mkSlots [] 21 0, []⟩, [])]⟩
noncomputable def S_q70_0_w (x : Tys D_q70_0.head.ks) : Option (OutT D_q70_0.outs) := @whileO (ByteArray × (List Sta) × Int × Int × Unit) ((Int × Unit) ⊕ (Unit)) S_impl_FindStation_0 x
noncomputable def E_q70 : Env := ⟨layD, [], [(2, mkLM D_q70_0 S_q70_0_w)], []⟩
theorem cons_q70 : ConsOk Tryz.prog FX E_q70.cons := consOk_nil
theorem S_q70_0_ok (x : Tys D_q70_0.head.ks) : stepL E_q70 D_q70_0 body_q70_0 x = S_impl_FindStation_0 x := by kernel_rfl
theorem loops_q70_0 : loopsIn body_q70_0 = [] := by kernel_rfl
theorem l_q70_0 : LoopOk Tryz.prog FX (mkLM D_q70_0 S_q70_0_w) body_q70_0 := loop_ok2 mix layD_ok cons_q70 (by kernel_rfl) (loops_mem loops_q70_0 (trivial)) S_q70_0_ok fun _ _ h => h
theorem loops_q70 : loopsIn code_q70 = [body_q70_0] := by kernel_rfl
theorem m_q70 : Meets Tryz.prog FX 48 c_q70 := meets_of (E := E_q70) (code := code_q70) mix layD_ok cons_q70 Tryz.func48 (by kernel_rfl) sg_q70 (by kernel_rfl) (fun y => y.1) c_q70.out (fun _ => rfl) c_q70.run (fun x => by kernel_rfl) (by kernel_rfl) (loops_mem loops_q70 (⟨⟨_, by kernel_rfl, l_q70_0⟩, trivial⟩))
noncomputable def sg_q71 : Sig := ⟨[(true, [.d (.bool), .d (.sl .sta)])], [], false, [(false, [.d (.bool)])], []⟩
noncomputable def c_q71 : Con := ⟨sg_q71, Bool, fun x => M_impl_NetworkOk (⟨x.1, x.2.1⟩ : Net), fun r => (r, ())⟩
noncomputable def code_q71 : Code := Tryz.f62.body.getD .skip
noncomputable def body_q71_0 : Code := (loopsIn code_q71).getD 0 .skip
noncomputable def D_q71_0 : LoopD := ⟨⟨mkSlots [(1, false, [.lp 64 0]), (10, false, [.d (.sl .sta)]), (11, false, [.d (.int .i64)]), (12, false, [.d (.int .i64)])] 31 0, [(64, .box [.d (.bool), .d (.sl .sta)])]⟩, [], [(.ret, ⟨mkSlots [(2, false, [.d (.bool)])] 31 0, []⟩, []), (.exit 0, ⟨mkSlots [] 31 0, []⟩, [])]⟩
noncomputable def S_q71_0_w (x : Tys D_q71_0.head.ks) : Option (OutT D_q71_0.outs) := @whileO ((List Sta) × Int × Int × Bool × (List Sta) × Unit) ((Bool × Unit) ⊕ (Unit)) S_impl_NetworkOk_0 x
noncomputable def E_q71 : Env := ⟨layD, [(114, c_q69), (48, c_q70)], [(4, mkLM D_q71_0 S_q71_0_w)], []⟩
theorem cons_q71 : ConsOk Tryz.prog FX E_q71.cons := consOk_cons m_q69 (callable_of Tryz.func114 (by kernel_rfl)) (consOk_cons m_q70 (callable_of Tryz.func48 (by kernel_rfl)) (consOk_nil))
theorem S_q71_0_ok (x : Tys D_q71_0.head.ks) : stepL E_q71 D_q71_0 body_q71_0 x = S_impl_NetworkOk_0 x := by kernel_rfl
theorem loops_q71_0 : loopsIn body_q71_0 = [] := by kernel_rfl
theorem l_q71_0 : LoopOk Tryz.prog FX (mkLM D_q71_0 S_q71_0_w) body_q71_0 := loop_ok2 mix layD_ok cons_q71 (by kernel_rfl) (loops_mem loops_q71_0 (trivial)) S_q71_0_ok fun _ _ h => h
theorem loops_q71 : loopsIn code_q71 = [body_q71_0] := by kernel_rfl
theorem m_q71 : Meets Tryz.prog FX 62 c_q71 := meets_of (E := E_q71) (code := code_q71) mix layD_ok cons_q71 Tryz.func62 (by kernel_rfl) sg_q71 (by kernel_rfl) (fun y => y.1) c_q71.out (fun _ => rfl) c_q71.run (fun x => by kernel_rfl) (by kernel_rfl) (loops_mem loops_q71 (⟨⟨_, by kernel_rfl, l_q71_0⟩, trivial⟩))
noncomputable def sg_q72 : Sig := ⟨[(false, [.d (.int .i64)])], [], false, [(false, [.d (.bool)])], []⟩
noncomputable def c_q72 : Con := ⟨sg_q72, Bool, fun x => M_impl_IsBetween x.1, fun r => (r, ())⟩
noncomputable def code_q72 : Code := Tryz.f46.body.getD .skip
noncomputable def E_q72 : Env := ⟨layD, [], [], []⟩
theorem cons_q72 : ConsOk Tryz.prog FX E_q72.cons := consOk_nil
theorem loops_q72 : loopsIn code_q72 = [] := by kernel_rfl
theorem m_q72 : Meets Tryz.prog FX 46 c_q72 := meets_of (E := E_q72) (code := code_q72) mix layD_ok cons_q72 Tryz.func46 (by kernel_rfl) sg_q72 (by kernel_rfl) (fun y => y.1) c_q72.out (fun _ => rfl) c_q72.run (fun x => by kernel_rfl) (by kernel_rfl) (loops_mem loops_q72 (trivial))
noncomputable def sg_q73 : Sig := ⟨[(true, [.d (.bool), .d (.sl .int), .d (.sl .int)])], [], false, [(false, [.d (.int .i64)])], []⟩
noncomputable def c_q73 : Con := ⟨sg_q73, Int, fun x => M_impl_sign (⟨x.1, x.2.1, x.2.2.1⟩ : Rt), fun r => (r, ())⟩
noncomputable def code_q73 : Code := Tryz.f115.body.getD .skip
noncomputable def E_q73 : Env := ⟨layD, [], [], []⟩
theorem cons_q73 : ConsOk Tryz.prog FX E_q73.cons := consOk_nil
theorem loops_q73 : loopsIn code_q73 = [] := by kernel_rfl
theorem m_q73 : Meets Tryz.prog FX 115 c_q73 := meets_of (E := E_q73) (code := code_q73) mix layD_ok cons_q73 Tryz.func115 (by kernel_rfl) sg_q73 (by kernel_rfl) (fun y => y.1) c_q73.out (fun _ => rfl) c_q73.run (fun x => by kernel_rfl) (by kernel_rfl) (loops_mem loops_q73 (trivial))
noncomputable def sg_q74 : Sig := ⟨[(true, [.d (.bool), .d (.sl .sta)]), (true, [.d (.int .i64), .d (.int .i64), .d (.int .i64), .d (.bool), .d (.sl .int), .d (.sl .int), .d (.bool), .d (.sl .int), .d (.sl .int)])], [], false, [(false, [.d (.bool)])], []⟩
noncomputable def c_q74 : Con := ⟨sg_q74, Bool, fun x => M_impl_observationFits (⟨x.1, x.2.1⟩ : Net) (⟨x.2.2.1, x.2.2.2.1, x.2.2.2.2.1, (⟨x.2.2.2.2.2.1, x.2.2.2.2.2.2.1, x.2.2.2.2.2.2.2.1⟩ : Rt), (⟨x.2.2.2.2.2.2.2.2.1, x.2.2.2.2.2.2.2.2.2.1, x.2.2.2.2.2.2.2.2.2.2.1⟩ : Rt)⟩ : Obs), fun r => (r, ())⟩
noncomputable def code_q74 : Code := Tryz.f63.body.getD .skip
noncomputable def E_q74 : Env := ⟨layD, [(46, c_q72), (93, c_q67), (115, c_q73)], [], []⟩
theorem cons_q74 : ConsOk Tryz.prog FX E_q74.cons := consOk_cons m_q72 (callable_of Tryz.func46 (by kernel_rfl)) (consOk_cons m_q67 (callable_of Tryz.func93 (by kernel_rfl)) (consOk_cons m_q73 (callable_of Tryz.func115 (by kernel_rfl)) (consOk_nil)))
theorem loops_q74 : loopsIn code_q74 = [] := by kernel_rfl
theorem m_q74 : Meets Tryz.prog FX 63 c_q74 := meets_of (E := E_q74) (code := code_q74) mix layD_ok cons_q74 Tryz.func63 (by kernel_rfl) sg_q74 (by kernel_rfl) (fun y => y.1) c_q74.out (fun _ => rfl) c_q74.run (fun x => by kernel_rfl) (by kernel_rfl) (loops_mem loops_q74 (trivial))
noncomputable def sg_q75 : Sig := ⟨[(true, [.d (.bool), .d (.sl .sta)]), (false, [.d (.sl .obs)])], [], false, [(false, [.d (.bool)])], []⟩
noncomputable def c_q75 : Con := ⟨sg_q75, Bool, fun x => M_impl_ObservationsOk (⟨x.1, x.2.1⟩ : Net) x.2.2.1, fun r => (r, ())⟩
noncomputable def code_q75 : Code := Tryz.f22.body.getD .skip
noncomputable def body_q75_0 : Code := (loopsIn code_q75).getD 0 .skip
noncomputable def D_q75_0 : LoopD := ⟨⟨mkSlots [(2, false, [.lp 128 0]), (15, false, [.d (.sl .obs)]), (16, false, [.d (.int .i64)]), (17, false, [.d (.int .i64)])] 26 0, [(128, .box [.d (.bool), .d (.sl .sta)])]⟩, [], [(.ret, ⟨mkSlots [(4, false, [.d (.bool)])] 26 0, []⟩, []), (.exit 0, ⟨mkSlots [] 26 0, []⟩, [])]⟩
noncomputable def S_q75_0_w (x : Tys D_q75_0.head.ks) : Option (OutT D_q75_0.outs) := @whileO ((List Obs) × Int × Int × Bool × (List Sta) × Unit) ((Bool × Unit) ⊕ (Unit)) S_impl_ObservationsOk_0 x
noncomputable def E_q75 : Env := ⟨layD, [(62, c_q71), (63, c_q74)], [(4, mkLM D_q75_0 S_q75_0_w)], []⟩
theorem cons_q75 : ConsOk Tryz.prog FX E_q75.cons := consOk_cons m_q71 (callable_of Tryz.func62 (by kernel_rfl)) (consOk_cons m_q74 (callable_of Tryz.func63 (by kernel_rfl)) (consOk_nil))
theorem S_q75_0_ok (x : Tys D_q75_0.head.ks) : stepL E_q75 D_q75_0 body_q75_0 x = S_impl_ObservationsOk_0 x := by kernel_rfl
theorem loops_q75_0 : loopsIn body_q75_0 = [] := by kernel_rfl
theorem l_q75_0 : LoopOk Tryz.prog FX (mkLM D_q75_0 S_q75_0_w) body_q75_0 := loop_ok2 mix layD_ok cons_q75 (by kernel_rfl) (loops_mem loops_q75_0 (trivial)) S_q75_0_ok fun _ _ h => h
theorem loops_q75 : loopsIn code_q75 = [body_q75_0] := by kernel_rfl
theorem m_q75 : Meets Tryz.prog FX 22 c_q75 := meets_of (E := E_q75) (code := code_q75) mix layD_ok cons_q75 Tryz.func22 (by kernel_rfl) sg_q75 (by kernel_rfl) (fun y => y.1) c_q75.out (fun _ => rfl) c_q75.run (fun x => by kernel_rfl) (by kernel_rfl) (loops_mem loops_q75 (⟨⟨_, by kernel_rfl, l_q75_0⟩, trivial⟩))
noncomputable def sg_q76 : Sig := ⟨[(true, [.d (.bool), .d (.sl .sta), .d (.sl .obs)])], [], false, [(false, [.d (.bool)])], []⟩
noncomputable def c_q76 : Con := ⟨sg_q76, Bool, fun x => M_impl_BookOk (⟨x.1, x.2.1, x.2.2.1⟩ : Bk), fun r => (r, ())⟩
noncomputable def code_q76 : Code := Tryz.f21.body.getD .skip
noncomputable def E_q76 : Env := ⟨layD, [(22, c_q75)], [], []⟩
theorem cons_q76 : ConsOk Tryz.prog FX E_q76.cons := consOk_cons m_q75 (callable_of Tryz.func22 (by kernel_rfl)) (consOk_nil)
theorem loops_q76 : loopsIn code_q76 = [] := by kernel_rfl
theorem m_q76 : Meets Tryz.prog FX 21 c_q76 := meets_of (E := E_q76) (code := code_q76) mix layD_ok cons_q76 Tryz.func21 (by kernel_rfl) sg_q76 (by kernel_rfl) (fun y => y.1) c_q76.out (fun _ => rfl) c_q76.run (fun x => by kernel_rfl) (by kernel_rfl) (loops_mem loops_q76 (trivial))
noncomputable def c_q77 : Con := Fo.c_strconv_Itoa
theorem m_q77 : Meets Tryz.prog FX 153 c_q77 := Fo.m_strconv_Itoa
noncomputable def c_q78 : Con := Fo.c_strings_Repeat
theorem m_q78 : Meets Tryz.prog FX 189 c_q78 := Fo.m_strings_Repeat
noncomputable def sg_q79 : Sig := ⟨[(false, [.d (.str)]), (false, [.d (.int .i64)])], [], false, [(false, [.d (.str)])], []⟩
noncomputable def c_q79 : Con := ⟨sg_q79, ByteArray, fun x => M_impl_PadZeros x.1 x.2.1, fun r => (r, ())⟩
noncomputable def code_q79 : Code := Tryz.f154.body.getD .skip
noncomputable def E_q79 : Env := ⟨layD, [(189, c_q78)], [], []⟩
theorem cons_q79 : ConsOk Tryz.prog FX E_q79.cons := consOk_cons m_q78 (callable_of Tryz.func189 (by kernel_rfl)) (consOk_nil)
theorem loops_q79 : loopsIn code_q79 = [] := by kernel_rfl
theorem m_q79 : Meets Tryz.prog FX 154 c_q79 := meets_of (E := E_q79) (code := code_q79) mix layD_ok cons_q79 Tryz.func154 (by kernel_rfl) sg_q79 (by kernel_rfl) (fun y => y.1) c_q79.out (fun _ => rfl) c_q79.run (fun x => by kernel_rfl) (by kernel_rfl) (loops_mem loops_q79 (trivial))
noncomputable def sg_q80 : Sig := ⟨[(false, [.d (.sl .int)])], [], false, [(false, [.d (.str)])], []⟩
noncomputable def c_q80 : Con := ⟨sg_q80, ByteArray, fun x => M_impl_formatNat x.1, fun r => (r, ())⟩
noncomputable def code_q80 : Code := Tryz.f112.body.getD .skip
noncomputable def body_q80_0 : Code := (loopsIn code_q80).getD 0 .skip
noncomputable def D_q80_0 : LoopD := ⟨⟨mkSlots [(0, false, [.d (.sl .int)]), (3, false, [.d (.str)]), (4, false, [.d (.int .i64)])] 31 0, []⟩, [], [(.exit 0, ⟨mkSlots [(3, false, [.d (.str)])] 31 0, []⟩, [])]⟩
noncomputable def S_q80_0_w (x : Tys D_q80_0.head.ks) : Option (OutT D_q80_0.outs) := @whileO ((List Int) × ByteArray × Int × Unit) (ByteArray × Unit) S_impl_formatNat_0 x
noncomputable def E_q80 : Env := ⟨layD, [(153, c_q77), (154, c_q79)], [(5, mkLM D_q80_0 S_q80_0_w)], []⟩
theorem cons_q80 : ConsOk Tryz.prog FX E_q80.cons := consOk_cons m_q77 (callable_of Tryz.func153 (by kernel_rfl)) (consOk_cons m_q79 (callable_of Tryz.func154 (by kernel_rfl)) (consOk_nil))
theorem S_q80_0_ok (x : Tys D_q80_0.head.ks) : stepL E_q80 D_q80_0 body_q80_0 x = S_impl_formatNat_0 x := by kernel_rfl
theorem loops_q80_0 : loopsIn body_q80_0 = [] := by kernel_rfl
theorem l_q80_0 : LoopOk Tryz.prog FX (mkLM D_q80_0 S_q80_0_w) body_q80_0 := loop_ok2 mix layD_ok cons_q80 (by kernel_rfl) (loops_mem loops_q80_0 (trivial)) S_q80_0_ok fun _ _ h => h
theorem loops_q80 : loopsIn code_q80 = [body_q80_0] := by kernel_rfl
theorem m_q80 : Meets Tryz.prog FX 112 c_q80 := meets_of (E := E_q80) (code := code_q80) mix layD_ok cons_q80 Tryz.func112 (by kernel_rfl) sg_q80 (by kernel_rfl) (fun y => y.1) c_q80.out (fun _ => rfl) c_q80.run (fun x => by kernel_rfl) (by kernel_rfl) (loops_mem loops_q80 (⟨⟨_, by kernel_rfl, l_q80_0⟩, trivial⟩))
noncomputable def sg_q81 : Sig := ⟨[(true, [.d (.bool), .d (.sl .int)])], [], false, [(false, [.d (.str)])], []⟩
noncomputable def c_q81 : Con := ⟨sg_q81, ByteArray, fun x => M_impl_formatBig (⟨x.1, x.2.1⟩ : Bg), fun r => (r, ())⟩
noncomputable def code_q81 : Code := Tryz.f111.body.getD .skip
noncomputable def E_q81 : Env := ⟨layD, [(112, c_q80)], [], []⟩
theorem cons_q81 : ConsOk Tryz.prog FX E_q81.cons := consOk_cons m_q80 (callable_of Tryz.func112 (by kernel_rfl)) (consOk_nil)
theorem loops_q81 : loopsIn code_q81 = [] := by kernel_rfl
theorem m_q81 : Meets Tryz.prog FX 111 c_q81 := meets_of (E := E_q81) (code := code_q81) mix layD_ok cons_q81 Tryz.func111 (by kernel_rfl) sg_q81 (by kernel_rfl) (fun y => y.1) c_q81.out (fun _ => rfl) c_q81.run (fun x => by kernel_rfl) (by kernel_rfl) (loops_mem loops_q81 (trivial))
noncomputable def sg_q82 : Sig := ⟨[(true, [.d (.bool), .d (.sl .int), .d (.sl .int)])], [], false, [(false, [.d (.str)])], []⟩
noncomputable def c_q82 : Con := ⟨sg_q82, ByteArray, fun x => M_impl_formatRat (⟨x.1, x.2.1, x.2.2.1⟩ : Rt), fun r => (r, ())⟩
noncomputable def code_q82 : Code := Tryz.f60.body.getD .skip
noncomputable def E_q82 : Env := ⟨layD, [(110, c_q66), (111, c_q81), (112, c_q80)], [], [(3, [(0, []), (1, []), (4, []), (5, []), (2, [1, 0]), (3, []), (6, [5, 2, 4, 1, 0]), (7, []), (8, [7, 6, 0, 1, 2, 3, 4, 5])])]⟩
theorem cons_q82 : ConsOk Tryz.prog FX E_q82.cons := consOk_cons m_q66 (callable_of Tryz.func110 (by kernel_rfl)) (consOk_cons m_q81 (callable_of Tryz.func111 (by kernel_rfl)) (consOk_cons m_q80 (callable_of Tryz.func112 (by kernel_rfl)) (consOk_nil)))
theorem loops_q82 : loopsIn code_q82 = [] := by kernel_rfl
theorem m_q82 : Meets Tryz.prog FX 60 c_q82 := meets_of (E := E_q82) (code := code_q82) mix layD_ok cons_q82 Tryz.func60 (by kernel_rfl) sg_q82 (by kernel_rfl) (fun y => y.1) c_q82.out (fun _ => rfl) c_q82.run (fun x => by kernel_rfl) (by kernel_rfl) (loops_mem loops_q82 (trivial))
noncomputable def sg_q83 : Sig := ⟨[(true, [.d (.bool), .d (.sl .sta)]), (true, [.d (.int .i64), .d (.int .i64), .d (.int .i64), .d (.bool), .d (.sl .int), .d (.sl .int), .d (.bool), .d (.sl .int), .d (.sl .int)])], [], false, [(false, [.d (.bool)])], []⟩
noncomputable def c_q83 : Con := ⟨sg_q83, Bool, fun x => M_impl_ObservationOk (⟨x.1, x.2.1⟩ : Net) (⟨x.2.2.1, x.2.2.2.1, x.2.2.2.2.1, (⟨x.2.2.2.2.2.1, x.2.2.2.2.2.2.1, x.2.2.2.2.2.2.2.1⟩ : Rt), (⟨x.2.2.2.2.2.2.2.2.1, x.2.2.2.2.2.2.2.2.2.1, x.2.2.2.2.2.2.2.2.2.2.1⟩ : Rt)⟩ : Obs), fun r => (r, ())⟩
noncomputable def code_q83 : Code := Tryz.f50.body.getD .skip
noncomputable def E_q83 : Env := ⟨layD, [(62, c_q71), (63, c_q74)], [], []⟩
theorem cons_q83 : ConsOk Tryz.prog FX E_q83.cons := consOk_cons m_q71 (callable_of Tryz.func62 (by kernel_rfl)) (consOk_cons m_q74 (callable_of Tryz.func63 (by kernel_rfl)) (consOk_nil))
theorem loops_q83 : loopsIn code_q83 = [] := by kernel_rfl
theorem m_q83 : Meets Tryz.prog FX 50 c_q83 := meets_of (E := E_q83) (code := code_q83) mix layD_ok cons_q83 Tryz.func50 (by kernel_rfl) sg_q83 (by kernel_rfl) (fun y => y.1) c_q83.out (fun _ => rfl) c_q83.run (fun x => by kernel_rfl) (by kernel_rfl) (loops_mem loops_q83 (trivial))
noncomputable def sg_q84 : Sig := ⟨[(false, [.d (.int .i64)])], [], false, [(false, [.d (.str)])], []⟩
noncomputable def c_q84 : Con := ⟨sg_q84, ByteArray, fun x => M_impl_KindName x.1, fun r => (r, ())⟩
noncomputable def code_q84 : Code := Tryz.f47.body.getD .skip
noncomputable def E_q84 : Env := ⟨layD, [], [], []⟩
theorem cons_q84 : ConsOk Tryz.prog FX E_q84.cons := consOk_nil
theorem loops_q84 : loopsIn code_q84 = [] := by kernel_rfl
theorem m_q84 : Meets Tryz.prog FX 47 c_q84 := meets_of (E := E_q84) (code := code_q84) mix layD_ok cons_q84 Tryz.func47 (by kernel_rfl) sg_q84 (by kernel_rfl) (fun y => y.1) c_q84.out (fun _ => rfl) c_q84.run (fun x => by kernel_rfl) (by kernel_rfl) (loops_mem loops_q84 (trivial))
noncomputable def sg_q85 : Sig := ⟨[(true, [.d (.bool), .d (.sl .sta)]), (true, [.d (.int .i64), .d (.int .i64), .d (.int .i64), .d (.bool), .d (.sl .int), .d (.sl .int), .d (.bool), .d (.sl .int), .d (.sl .int)])], [], false, [(false, [.own 0])], [(0, .arr false .str)]⟩
noncomputable def c_q85 : Con := ⟨sg_q85, List ByteArray, fun x => M_impl_observationWords (⟨x.1, x.2.1⟩ : Net) (⟨x.2.2.1, x.2.2.2.1, x.2.2.2.2.1, (⟨x.2.2.2.2.2.1, x.2.2.2.2.2.2.1, x.2.2.2.2.2.2.2.1⟩ : Rt), (⟨x.2.2.2.2.2.2.2.2.1, x.2.2.2.2.2.2.2.2.2.1, x.2.2.2.2.2.2.2.2.2.2.1⟩ : Rt)⟩ : Obs), fun r => (r, ())⟩
noncomputable def code_q85 : Code := Tryz.f65.body.getD .skip
noncomputable def E_q85 : Env := ⟨layD, [(47, c_q84), (46, c_q72)], [], [(1, [(0, []), (1, []), (3, []), (4, []), (5, []), (6, []), (7, []), (8, []), (9, []), (2, [1, 0]), (10, [2, 9, 1, 8, 0, 7, 4, 6, 3, 5]), (11, [10, 2, 0, 1, 3, 4, 5, 6, 7, 8, 9])])]⟩
theorem cons_q85 : ConsOk Tryz.prog FX E_q85.cons := consOk_cons m_q84 (callable_of Tryz.func47 (by kernel_rfl)) (consOk_cons m_q72 (callable_of Tryz.func46 (by kernel_rfl)) (consOk_nil))
theorem loops_q85 : loopsIn code_q85 = [] := by kernel_rfl
theorem m_q85 : Meets Tryz.prog FX 65 c_q85 := meets_of (E := E_q85) (code := code_q85) mix layD_ok cons_q85 Tryz.func65 (by kernel_rfl) sg_q85 (by kernel_rfl) (fun y => y.1) c_q85.out (fun _ => rfl) c_q85.run (fun x => by kernel_rfl) (by kernel_rfl) (loops_mem loops_q85 (trivial))
noncomputable def c_q86 : Con := Fo.c_strings_Join
theorem m_q86 : Meets Tryz.prog FX 116 c_q86 := Fo.m_strings_Join
noncomputable def sg_q87 : Sig := ⟨[(false, [.d (.sl .str)]), (false, [.d (.str)])], [], false, [(false, [.d (.str)])], []⟩
noncomputable def c_q87 : Con := ⟨sg_q87, ByteArray, fun x => M_impl_Join x.1 x.2.1, fun r => (r, ())⟩
noncomputable def code_q87 : Code := Tryz.f64.body.getD .skip
noncomputable def E_q87 : Env := ⟨layD, [(116, c_q86)], [], []⟩
theorem cons_q87 : ConsOk Tryz.prog FX E_q87.cons := consOk_cons m_q86 (callable_of Tryz.func116 (by kernel_rfl)) (consOk_nil)
theorem loops_q87 : loopsIn code_q87 = [] := by kernel_rfl
theorem m_q87 : Meets Tryz.prog FX 64 c_q87 := meets_of (E := E_q87) (code := code_q87) mix layD_ok cons_q87 Tryz.func64 (by kernel_rfl) sg_q87 (by kernel_rfl) (fun y => y.1) c_q87.out (fun _ => rfl) c_q87.run (fun x => by kernel_rfl) (by kernel_rfl) (loops_mem loops_q87 (trivial))
noncomputable def sg_q88 : Sig := ⟨[(true, [.d (.bool), .d (.sl .sta)]), (true, [.d (.int .i64), .d (.int .i64), .d (.int .i64), .d (.bool), .d (.sl .int), .d (.sl .int), .d (.bool), .d (.sl .int), .d (.sl .int)])], [], false, [(false, [.d (.str)])], []⟩
noncomputable def c_q88 : Con := ⟨sg_q88, ByteArray, fun x => M_impl_FormatObservation (⟨x.1, x.2.1⟩ : Net) (⟨x.2.2.1, x.2.2.2.1, x.2.2.2.2.1, (⟨x.2.2.2.2.2.1, x.2.2.2.2.2.2.1, x.2.2.2.2.2.2.2.1⟩ : Rt), (⟨x.2.2.2.2.2.2.2.2.1, x.2.2.2.2.2.2.2.2.2.1, x.2.2.2.2.2.2.2.2.2.2.1⟩ : Rt)⟩ : Obs), fun r => (r, ())⟩
noncomputable def code_q88 : Code := Tryz.f23.body.getD .skip
noncomputable def E_q88 : Env := ⟨layD, [(50, c_q83), (65, c_q85), (60, c_q82), (64, c_q87)], [], [(3, [(0, []), (1, []), (3, []), (4, []), (6, []), (7, []), (2, [0, 1]), (5, [4, 2, 3, 0, 1]), (8, [7, 5, 6, 4, 2, 3, 0, 1]), (9, [5, 8, 4, 2, 7, 3, 0, 1, 6]), (10, [2, 9, 8, 0, 1, 5, 7, 4, 6, 3]), (11, [10, 2, 9, 8, 0, 1, 5, 7, 4, 6, 3]), (12, [11, 0, 1, 2, 3, 4, 5, 6, 7, 8, 9, 10])])]⟩
theorem cons_q88 : ConsOk Tryz.prog FX E_q88.cons := consOk_cons m_q83 (callable_of Tryz.func50 (by kernel_rfl)) (consOk_cons m_q85 (callable_of Tryz.func65 (by kernel_rfl)) (consOk_cons m_q82 (callable_of Tryz.func60 (by kernel_rfl)) (consOk_cons m_q87 (callable_of Tryz.func64 (by kernel_rfl)) (consOk_nil))))
theorem loops_q88 : loopsIn code_q88 = [] := by kernel_rfl
theorem m_q88 : Meets Tryz.prog FX 23 c_q88 := meets_of (E := E_q88) (code := code_q88) mix layD_ok cons_q88 Tryz.func23 (by kernel_rfl) sg_q88 (by kernel_rfl) (fun y => y.1) c_q88.out (fun _ => rfl) c_q88.run (fun x => by kernel_rfl) (by kernel_rfl) (loops_mem loops_q88 (trivial))
noncomputable def sg_q89 : Sig := ⟨[(true, [.d (.bool), .d (.sl .sta), .d (.sl .obs)])], [], false, [(false, [.d (.str)])], []⟩
noncomputable def c_q89 : Con := ⟨sg_q89, ByteArray, fun x => M_impl_FormatBook (⟨x.1, x.2.1, x.2.2.1⟩ : Bk), fun r => (r, ())⟩
noncomputable def code_q89 : Code := Tryz.f19.body.getD .skip
noncomputable def body_q89_0 : Code := (loopsIn code_q89).getD 0 .skip
noncomputable def body_q89_1 : Code := (loopsIn code_q89).getD 1 .skip
noncomputable def D_q89_0 : LoopD := ⟨⟨mkSlots [(1, false, [.lp 64 0]), (3, false, [.d (.str)]), (17, false, [.d (.sl .sta)]), (18, false, [.d (.int .i64)]), (19, false, [.d (.int .i64)])] 65 0, [(64, .box [.d (.bool), .d (.sl .sta), .d (.sl .obs)])]⟩, [], [(.exit 0, ⟨mkSlots [(1, false, [.lp 64 0]), (3, false, [.d (.str)])] 65 0, [(64, .box [.d (.bool), .d (.sl .sta), .d (.sl .obs)])]⟩, [])]⟩
noncomputable def D_q89_1 : LoopD := ⟨⟨mkSlots [(1, false, [.lp 64 0]), (3, false, [.d (.str)]), (50, false, [.d (.sl .obs)]), (51, false, [.d (.int .i64)]), (52, false, [.d (.int .i64)])] 65 0, [(64, .box [.d (.bool), .d (.sl .sta), .d (.sl .obs)])]⟩, [], [(.exit 2, ⟨mkSlots [(3, false, [.d (.str)])] 65 0, []⟩, [])]⟩
noncomputable def S_q89_0_w (x : Tys D_q89_0.head.ks) : Option (OutT D_q89_0.outs) := @whileO (ByteArray × (List Sta) × Int × Int × Bool × (List Sta) × (List Obs) × Unit) (ByteArray × Bool × (List Sta) × (List Obs) × Unit) S_impl_FormatBook_0 x
noncomputable def S_q89_1_w (x : Tys D_q89_1.head.ks) : Option (OutT D_q89_1.outs) := @whileO (ByteArray × (List Obs) × Int × Int × Bool × (List Sta) × (List Obs) × Unit) (ByteArray × Unit) S_impl_FormatBook_1 x
noncomputable def E_q89 : Env := ⟨layD, [(21, c_q76), (60, c_q82), (23, c_q88)], [(7, mkLM D_q89_0 S_q89_0_w), (18, mkLM D_q89_1 S_q89_1_w)], [(12, [(0, []), (1, []), (2, []), (3, []), (4, []), (5, []), (6, []), (7, []), (8, []), (9, [8, 7]), (10, []), (11, []), (12, [11, 9, 0, 1, 2, 3, 4, 5, 6, 7, 8, 10])])]⟩
theorem cons_q89 : ConsOk Tryz.prog FX E_q89.cons := consOk_cons m_q76 (callable_of Tryz.func21 (by kernel_rfl)) (consOk_cons m_q82 (callable_of Tryz.func60 (by kernel_rfl)) (consOk_cons m_q88 (callable_of Tryz.func23 (by kernel_rfl)) (consOk_nil)))
theorem S_q89_1_ok (x : Tys D_q89_1.head.ks) : stepL E_q89 D_q89_1 body_q89_1 x = S_impl_FormatBook_1 x := by kernel_rfl
theorem loops_q89_1 : loopsIn body_q89_1 = [] := by kernel_rfl
theorem l_q89_1 : LoopOk Tryz.prog FX (mkLM D_q89_1 S_q89_1_w) body_q89_1 := loop_ok2 mix layD_ok cons_q89 (by kernel_rfl) (loops_mem loops_q89_1 (trivial)) S_q89_1_ok fun _ _ h => h
theorem S_q89_0_ok (x : Tys D_q89_0.head.ks) : stepL E_q89 D_q89_0 body_q89_0 x = S_impl_FormatBook_0 x := by kernel_rfl
theorem loops_q89_0 : loopsIn body_q89_0 = [] := by kernel_rfl
theorem l_q89_0 : LoopOk Tryz.prog FX (mkLM D_q89_0 S_q89_0_w) body_q89_0 := loop_ok2 mix layD_ok cons_q89 (by kernel_rfl) (loops_mem loops_q89_0 (trivial)) S_q89_0_ok fun _ _ h => h
theorem loops_q89 : loopsIn code_q89 = [body_q89_0, body_q89_1] := by kernel_rfl
theorem m_q89 : Meets Tryz.prog FX 19 c_q89 := meets_of (E := E_q89) (code := code_q89) mix layD_ok cons_q89 Tryz.func19 (by kernel_rfl) sg_q89 (by kernel_rfl) (fun y => y.1) c_q89.out (fun _ => rfl) c_q89.run (fun x => by kernel_rfl) (by kernel_rfl) (loops_mem loops_q89 (⟨⟨_, by kernel_rfl, l_q89_0⟩, ⟨⟨_, by kernel_rfl, l_q89_1⟩, trivial⟩⟩))
noncomputable def sg_q90 : Sig := ⟨[(false, [.d (.sl .int)]), (false, [.d (.sl .int)])], [], false, [(false, [.d (.bool)])], []⟩
noncomputable def c_q90 : Con := ⟨sg_q90, Bool, fun x => M_laws_eqIntS x.1 x.2.1, fun r => (r, ())⟩
noncomputable def code_q90 : Code := Tryz.f95.body.getD .skip
noncomputable def body_q90_0 : Code := (loopsIn code_q90).getD 0 .skip
noncomputable def D_q90_0 : LoopD := ⟨⟨mkSlots [(0, false, [.d (.sl .int)]), (1, false, [.d (.sl .int)]), (5, false, [.d (.int .i64)])] 26 0, []⟩, [], [(.ret, ⟨mkSlots [(4, false, [.d (.bool)])] 26 0, []⟩, []), (.exit 0, ⟨mkSlots [] 26 0, []⟩, [])]⟩
noncomputable def S_q90_0_w (x : Tys D_q90_0.head.ks) : Option (OutT D_q90_0.outs) := @whileO ((List Int) × (List Int) × Int × Unit) ((Bool × Unit) ⊕ (Unit)) S_laws_eqIntS_0 x
noncomputable def E_q90 : Env := ⟨layD, [], [(4, mkLM D_q90_0 S_q90_0_w)], [(6, [(0, []), (1, []), (2, []), (3, []), (4, []), (5, []), (6, []), (7, []), (8, [])])]⟩
theorem cons_q90 : ConsOk Tryz.prog FX E_q90.cons := consOk_nil
theorem S_q90_0_ok (x : Tys D_q90_0.head.ks) : stepL E_q90 D_q90_0 body_q90_0 x = S_laws_eqIntS_0 x := by kernel_rfl
theorem loops_q90_0 : loopsIn body_q90_0 = [] := by kernel_rfl
theorem l_q90_0 : LoopOk Tryz.prog FX (mkLM D_q90_0 S_q90_0_w) body_q90_0 := loop_ok2 mix layD_ok cons_q90 (by kernel_rfl) (loops_mem loops_q90_0 (trivial)) S_q90_0_ok fun _ _ h => h
theorem loops_q90 : loopsIn code_q90 = [body_q90_0] := by kernel_rfl
theorem m_q90 : Meets Tryz.prog FX 95 c_q90 := meets_of (E := E_q90) (code := code_q90) mix layD_ok cons_q90 Tryz.func95 (by kernel_rfl) sg_q90 (by kernel_rfl) (fun y => y.1) c_q90.out (fun _ => rfl) c_q90.run (fun x => by kernel_rfl) (by kernel_rfl) (loops_mem loops_q90 (⟨⟨_, by kernel_rfl, l_q90_0⟩, trivial⟩))
noncomputable def sg_q91 : Sig := ⟨[(true, [.d (.bool), .d (.sl .int)]), (true, [.d (.bool), .d (.sl .int)])], [], false, [(false, [.d (.bool)])], []⟩
noncomputable def c_q91 : Con := ⟨sg_q91, Bool, fun x => M_laws_eqBigInt (⟨x.1, x.2.1⟩ : Bg) (⟨x.2.2.1, x.2.2.2.1⟩ : Bg), fun r => (r, ())⟩
noncomputable def code_q91 : Code := Tryz.f94.body.getD .skip
noncomputable def E_q91 : Env := ⟨layD, [(95, c_q90)], [], []⟩
theorem cons_q91 : ConsOk Tryz.prog FX E_q91.cons := consOk_cons m_q90 (callable_of Tryz.func95 (by kernel_rfl)) (consOk_nil)
theorem loops_q91 : loopsIn code_q91 = [] := by kernel_rfl
theorem m_q91 : Meets Tryz.prog FX 94 c_q91 := meets_of (E := E_q91) (code := code_q91) mix layD_ok cons_q91 Tryz.func94 (by kernel_rfl) sg_q91 (by kernel_rfl) (fun y => y.1) c_q91.out (fun _ => rfl) c_q91.run (fun x => by kernel_rfl) (by kernel_rfl) (loops_mem loops_q91 (trivial))
noncomputable def sg_q92 : Sig := ⟨[(true, [.d (.bool), .d (.sl .int), .d (.sl .int)]), (true, [.d (.bool), .d (.sl .int), .d (.sl .int)])], [], false, [(false, [.d (.bool)])], []⟩
noncomputable def c_q92 : Con := ⟨sg_q92, Bool, fun x => M_laws_eqRat (⟨x.1, x.2.1, x.2.2.1⟩ : Rt) (⟨x.2.2.2.1, x.2.2.2.2.1, x.2.2.2.2.2.1⟩ : Rt), fun r => (r, ())⟩
noncomputable def code_q92 : Code := Tryz.f51.body.getD .skip
noncomputable def E_q92 : Env := ⟨layD, [(94, c_q91), (95, c_q90)], [], []⟩
theorem cons_q92 : ConsOk Tryz.prog FX E_q92.cons := consOk_cons m_q91 (callable_of Tryz.func94 (by kernel_rfl)) (consOk_cons m_q90 (callable_of Tryz.func95 (by kernel_rfl)) (consOk_nil))
theorem loops_q92 : loopsIn code_q92 = [] := by kernel_rfl
theorem m_q92 : Meets Tryz.prog FX 51 c_q92 := meets_of (E := E_q92) (code := code_q92) mix layD_ok cons_q92 Tryz.func51 (by kernel_rfl) sg_q92 (by kernel_rfl) (fun y => y.1) c_q92.out (fun _ => rfl) c_q92.run (fun x => by kernel_rfl) (by kernel_rfl) (loops_mem loops_q92 (trivial))
noncomputable def sg_q93 : Sig := ⟨[(true, [.d (.str), .d (.bool), .d (.sl .int), .d (.sl .int), .d (.bool), .d (.sl .int), .d (.sl .int), .d (.bool)]), (true, [.d (.str), .d (.bool), .d (.sl .int), .d (.sl .int), .d (.bool), .d (.sl .int), .d (.sl .int), .d (.bool)])], [], false, [(false, [.d (.bool)])], []⟩
noncomputable def c_q93 : Con := ⟨sg_q93, Bool, fun x => M_laws_eqStation (⟨x.1, (⟨x.2.1, x.2.2.1, x.2.2.2.1⟩ : Rt), (⟨x.2.2.2.2.1, x.2.2.2.2.2.1, x.2.2.2.2.2.2.1⟩ : Rt), x.2.2.2.2.2.2.2.1⟩ : Sta) (⟨x.2.2.2.2.2.2.2.2.1, (⟨x.2.2.2.2.2.2.2.2.2.1, x.2.2.2.2.2.2.2.2.2.2.1, x.2.2.2.2.2.2.2.2.2.2.2.1⟩ : Rt), (⟨x.2.2.2.2.2.2.2.2.2.2.2.2.1, x.2.2.2.2.2.2.2.2.2.2.2.2.2.1, x.2.2.2.2.2.2.2.2.2.2.2.2.2.2.1⟩ : Rt), x.2.2.2.2.2.2.2.2.2.2.2.2.2.2.2.1⟩ : Sta), fun r => (r, ())⟩
noncomputable def code_q93 : Code := Tryz.f96.body.getD .skip
noncomputable def E_q93 : Env := ⟨layD, [(51, c_q92)], [], []⟩
theorem cons_q93 : ConsOk Tryz.prog FX E_q93.cons := consOk_cons m_q92 (callable_of Tryz.func51 (by kernel_rfl)) (consOk_nil)
theorem loops_q93 : loopsIn code_q93 = [] := by kernel_rfl
theorem m_q93 : Meets Tryz.prog FX 96 c_q93 := meets_of (E := E_q93) (code := code_q93) mix layD_ok cons_q93 Tryz.func96 (by kernel_rfl) sg_q93 (by kernel_rfl) (fun y => y.1) c_q93.out (fun _ => rfl) c_q93.run (fun x => by kernel_rfl) (by kernel_rfl) (loops_mem loops_q93 (trivial))
noncomputable def sg_q94 : Sig := ⟨[(false, [.d (.sl .sta)]), (false, [.d (.sl .sta)])], [], false, [(false, [.d (.bool)])], []⟩
noncomputable def c_q94 : Con := ⟨sg_q94, Bool, fun x => M_laws_eqStationS x.1 x.2.1, fun r => (r, ())⟩
noncomputable def code_q94 : Code := Tryz.f52.body.getD .skip
noncomputable def body_q94_0 : Code := (loopsIn code_q94).getD 0 .skip
noncomputable def D_q94_0 : LoopD := ⟨⟨mkSlots [(0, false, [.d (.sl .sta)]), (1, false, [.d (.sl .sta)]), (5, false, [.d (.int .i64)])] 27 0, []⟩, [], [(.ret, ⟨mkSlots [(4, false, [.d (.bool)])] 27 0, []⟩, []), (.exit 0, ⟨mkSlots [] 27 0, []⟩, [])]⟩
noncomputable def S_q94_0_w (x : Tys D_q94_0.head.ks) : Option (OutT D_q94_0.outs) := @whileO ((List Sta) × (List Sta) × Int × Unit) ((Bool × Unit) ⊕ (Unit)) S_laws_eqStationS_0 x
noncomputable def E_q94 : Env := ⟨layD, [(96, c_q93)], [(4, mkLM D_q94_0 S_q94_0_w)], [(6, [(0, []), (1, []), (2, []), (3, []), (4, []), (5, []), (6, []), (7, []), (8, [3, 7, 2, 6, 0, 1, 4, 5]), (9, [])])]⟩
theorem cons_q94 : ConsOk Tryz.prog FX E_q94.cons := consOk_cons m_q93 (callable_of Tryz.func96 (by kernel_rfl)) (consOk_nil)
theorem S_q94_0_ok (x : Tys D_q94_0.head.ks) : stepL E_q94 D_q94_0 body_q94_0 x = S_laws_eqStationS_0 x := by kernel_rfl
theorem loops_q94_0 : loopsIn body_q94_0 = [] := by kernel_rfl
theorem l_q94_0 : LoopOk Tryz.prog FX (mkLM D_q94_0 S_q94_0_w) body_q94_0 := loop_ok2 mix layD_ok cons_q94 (by kernel_rfl) (loops_mem loops_q94_0 (trivial)) S_q94_0_ok fun _ _ h => h
theorem loops_q94 : loopsIn code_q94 = [body_q94_0] := by kernel_rfl
theorem m_q94 : Meets Tryz.prog FX 52 c_q94 := meets_of (E := E_q94) (code := code_q94) mix layD_ok cons_q94 Tryz.func52 (by kernel_rfl) sg_q94 (by kernel_rfl) (fun y => y.1) c_q94.out (fun _ => rfl) c_q94.run (fun x => by kernel_rfl) (by kernel_rfl) (loops_mem loops_q94 (⟨⟨_, by kernel_rfl, l_q94_0⟩, trivial⟩))
noncomputable def sg_q95 : Sig := ⟨[(true, [.d (.bool), .d (.sl .sta)]), (true, [.d (.bool), .d (.sl .sta)])], [], false, [(false, [.d (.bool)])], []⟩
noncomputable def c_q95 : Con := ⟨sg_q95, Bool, fun x => M_laws_eqNetwork (⟨x.1, x.2.1⟩ : Net) (⟨x.2.2.1, x.2.2.2.1⟩ : Net), fun r => (r, ())⟩
noncomputable def code_q95 : Code := Tryz.f13.body.getD .skip
noncomputable def E_q95 : Env := ⟨layD, [(52, c_q94)], [], []⟩
theorem cons_q95 : ConsOk Tryz.prog FX E_q95.cons := consOk_cons m_q94 (callable_of Tryz.func52 (by kernel_rfl)) (consOk_nil)
theorem loops_q95 : loopsIn code_q95 = [] := by kernel_rfl
theorem m_q95 : Meets Tryz.prog FX 13 c_q95 := meets_of (E := E_q95) (code := code_q95) mix layD_ok cons_q95 Tryz.func13 (by kernel_rfl) sg_q95 (by kernel_rfl) (fun y => y.1) c_q95.out (fun _ => rfl) c_q95.run (fun x => by kernel_rfl) (by kernel_rfl) (loops_mem loops_q95 (trivial))
noncomputable def sg_q96 : Sig := ⟨[(true, [.d (.int .i64), .d (.int .i64), .d (.int .i64), .d (.bool), .d (.sl .int), .d (.sl .int), .d (.bool), .d (.sl .int), .d (.sl .int)]), (true, [.d (.int .i64), .d (.int .i64), .d (.int .i64), .d (.bool), .d (.sl .int), .d (.sl .int), .d (.bool), .d (.sl .int), .d (.sl .int)])], [], false, [(false, [.d (.bool)])], []⟩
noncomputable def c_q96 : Con := ⟨sg_q96, Bool, fun x => M_laws_eqObservation (⟨x.1, x.2.1, x.2.2.1, (⟨x.2.2.2.1, x.2.2.2.2.1, x.2.2.2.2.2.1⟩ : Rt), (⟨x.2.2.2.2.2.2.1, x.2.2.2.2.2.2.2.1, x.2.2.2.2.2.2.2.2.1⟩ : Rt)⟩ : Obs) (⟨x.2.2.2.2.2.2.2.2.2.1, x.2.2.2.2.2.2.2.2.2.2.1, x.2.2.2.2.2.2.2.2.2.2.2.1, (⟨x.2.2.2.2.2.2.2.2.2.2.2.2.1, x.2.2.2.2.2.2.2.2.2.2.2.2.2.1, x.2.2.2.2.2.2.2.2.2.2.2.2.2.2.1⟩ : Rt), (⟨x.2.2.2.2.2.2.2.2.2.2.2.2.2.2.2.1, x.2.2.2.2.2.2.2.2.2.2.2.2.2.2.2.2.1, x.2.2.2.2.2.2.2.2.2.2.2.2.2.2.2.2.2.1⟩ : Rt)⟩ : Obs), fun r => (r, ())⟩
noncomputable def code_q96 : Code := Tryz.f12.body.getD .skip
noncomputable def E_q96 : Env := ⟨layD, [(51, c_q92)], [], []⟩
theorem cons_q96 : ConsOk Tryz.prog FX E_q96.cons := consOk_cons m_q92 (callable_of Tryz.func51 (by kernel_rfl)) (consOk_nil)
theorem loops_q96 : loopsIn code_q96 = [] := by kernel_rfl
theorem m_q96 : Meets Tryz.prog FX 12 c_q96 := meets_of (E := E_q96) (code := code_q96) mix layD_ok cons_q96 Tryz.func12 (by kernel_rfl) sg_q96 (by kernel_rfl) (fun y => y.1) c_q96.out (fun _ => rfl) c_q96.run (fun x => by kernel_rfl) (by kernel_rfl) (loops_mem loops_q96 (trivial))
noncomputable def sg_q97 : Sig := ⟨[(false, [.d (.sl .obs)]), (false, [.d (.sl .obs)])], [], false, [(false, [.d (.bool)])], []⟩
noncomputable def c_q97 : Con := ⟨sg_q97, Bool, fun x => M_laws_eqObservationS x.1 x.2.1, fun r => (r, ())⟩
noncomputable def code_q97 : Code := Tryz.f71.body.getD .skip
noncomputable def body_q97_0 : Code := (loopsIn code_q97).getD 0 .skip
noncomputable def D_q97_0 : LoopD := ⟨⟨mkSlots [(0, false, [.d (.sl .obs)]), (1, false, [.d (.sl .obs)]), (5, false, [.d (.int .i64)])] 27 0, []⟩, [], [(.ret, ⟨mkSlots [(4, false, [.d (.bool)])] 27 0, []⟩, []), (.exit 0, ⟨mkSlots [] 27 0, []⟩, [])]⟩
noncomputable def S_q97_0_w (x : Tys D_q97_0.head.ks) : Option (OutT D_q97_0.outs) := @whileO ((List Obs) × (List Obs) × Int × Unit) ((Bool × Unit) ⊕ (Unit)) S_laws_eqObservationS_0 x
noncomputable def E_q97 : Env := ⟨layD, [(12, c_q96)], [(4, mkLM D_q97_0 S_q97_0_w)], [(6, [(0, []), (1, []), (2, []), (3, []), (4, []), (5, []), (6, []), (7, []), (8, [3, 7, 2, 6, 0, 1, 4, 5]), (9, [])])]⟩
theorem cons_q97 : ConsOk Tryz.prog FX E_q97.cons := consOk_cons m_q96 (callable_of Tryz.func12 (by kernel_rfl)) (consOk_nil)
theorem S_q97_0_ok (x : Tys D_q97_0.head.ks) : stepL E_q97 D_q97_0 body_q97_0 x = S_laws_eqObservationS_0 x := by kernel_rfl
theorem loops_q97_0 : loopsIn body_q97_0 = [] := by kernel_rfl
theorem l_q97_0 : LoopOk Tryz.prog FX (mkLM D_q97_0 S_q97_0_w) body_q97_0 := loop_ok2 mix layD_ok cons_q97 (by kernel_rfl) (loops_mem loops_q97_0 (trivial)) S_q97_0_ok fun _ _ h => h
theorem loops_q97 : loopsIn code_q97 = [body_q97_0] := by kernel_rfl
theorem m_q97 : Meets Tryz.prog FX 71 c_q97 := meets_of (E := E_q97) (code := code_q97) mix layD_ok cons_q97 Tryz.func71 (by kernel_rfl) sg_q97 (by kernel_rfl) (fun y => y.1) c_q97.out (fun _ => rfl) c_q97.run (fun x => by kernel_rfl) (by kernel_rfl) (loops_mem loops_q97 (⟨⟨_, by kernel_rfl, l_q97_0⟩, trivial⟩))
noncomputable def sg_q98 : Sig := ⟨[(true, [.d (.bool), .d (.sl .sta), .d (.sl .obs)]), (true, [.d (.bool), .d (.sl .sta), .d (.sl .obs)])], [], false, [(false, [.d (.bool)])], []⟩
noncomputable def c_q98 : Con := ⟨sg_q98, Bool, fun x => M_laws_eqBook (⟨x.1, x.2.1, x.2.2.1⟩ : Bk) (⟨x.2.2.2.1, x.2.2.2.2.1, x.2.2.2.2.2.1⟩ : Bk), fun r => (r, ())⟩
noncomputable def code_q98 : Code := Tryz.f27.body.getD .skip
noncomputable def E_q98 : Env := ⟨layD, [(13, c_q95), (71, c_q97)], [], []⟩
theorem cons_q98 : ConsOk Tryz.prog FX E_q98.cons := consOk_cons m_q95 (callable_of Tryz.func13 (by kernel_rfl)) (consOk_cons m_q97 (callable_of Tryz.func71 (by kernel_rfl)) (consOk_nil))
theorem loops_q98 : loopsIn code_q98 = [] := by kernel_rfl
theorem m_q98 : Meets Tryz.prog FX 27 c_q98 := meets_of (E := E_q98) (code := code_q98) mix layD_ok cons_q98 Tryz.func27 (by kernel_rfl) sg_q98 (by kernel_rfl) (fun y => y.1) c_q98.out (fun _ => rfl) c_q98.run (fun x => by kernel_rfl) (by kernel_rfl) (loops_mem loops_q98 (trivial))
noncomputable def sg_q99 : Sig := ⟨[(true, [.d (.bool), .d (.sl .sta), .d (.sl .obs)])], [], false, [(false, [.d (.bool)])], []⟩
noncomputable def c_q99 : Con := ⟨sg_q99, Bool, fun x => M_laws_FnExactFormatBook (⟨x.1, x.2.1, x.2.2.1⟩ : Bk), fun r => (r, ())⟩
noncomputable def code_q99 : Code := Tryz.f7.body.getD .skip
noncomputable def E_q99 : Env := ⟨layD, [(33, c_q9), (35, c_q18), (34, c_q54), (19, c_q89), (27, c_q98)], [], [(10, [(0, []), (1, []), (2, [1]), (3, [0, 2, 1]), (4, [])])]⟩
theorem cons_q99 : ConsOk Tryz.prog FX E_q99.cons := consOk_cons m_q9 (callable_of Tryz.func33 (by kernel_rfl)) (consOk_cons m_q18 (callable_of Tryz.func35 (by kernel_rfl)) (consOk_cons m_q54 (callable_of Tryz.func34 (by kernel_rfl)) (consOk_cons m_q89 (callable_of Tryz.func19 (by kernel_rfl)) (consOk_cons m_q98 (callable_of Tryz.func27 (by kernel_rfl)) (consOk_nil)))))
theorem loops_q99 : loopsIn code_q99 = [] := by kernel_rfl
theorem m_q99 : Meets Tryz.prog FX 7 c_q99 := meets_of (E := E_q99) (code := code_q99) mix layD_ok cons_q99 Tryz.func7 (by kernel_rfl) sg_q99 (by kernel_rfl) (fun y => y.1) c_q99.out (fun _ => rfl) c_q99.run (fun x => by kernel_rfl) (by kernel_rfl) (loops_mem loops_q99 (trivial))
end Go.Proofs.YtdkfcdncamimmaaGreatDoor.WFormatBook
