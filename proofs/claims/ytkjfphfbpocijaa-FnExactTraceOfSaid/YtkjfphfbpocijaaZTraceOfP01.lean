/-
  Own work: part 9 of the texts that the proof of the given statement leans on.
-/
import Derived.Test.YtkjfphfbpocijaaProg
import Derived.Test.YtkjfphfbpocijaaZTraceOfP00
/-
  Own work, written by program (gen.py): the functions that the statement reaches meet their contracts.
-/
open Go Go.Di Go.Proofs
namespace Go.Proofs.Ytkjfphfbpocijaa.WTraceOf
noncomputable def lay : List (TypeId × TI) := [
  (3, ⟨false, [.d (.int .i64 0)], [], none, some (.int .i64), false, false⟩),
  (4, ⟨false, [.d (.bool false)], [], none, some .bool, false, false⟩),
  (23, ⟨false, [.mt], [], some .int, none, false, false⟩),
  (34, ⟨false, [.mt], [], some .rat, none, false, false⟩),
  (36, ⟨true, [.d (.int .i64 0), .d (.int .i64 0), .mt], [(0, 1, false), (1, 1, false), (2, 1, false)], none, none, true, false⟩),
  (41, ⟨false, [.mt], [], some .rat, none, false, false⟩),
  (43, ⟨true, [.d (.int .i64 0), .d (.int .i64 0), .mt], [(0, 1, false), (1, 1, false), (2, 1, false)], none, none, true, false⟩),
  (51, ⟨true, [.d (.bool false), .mt], [(0, 1, false), (1, 1, false)], none, none, true, false⟩),
  (53, ⟨true, [.d (.bool false), .mt, .mt], [(0, 2, true), (2, 1, false)], none, none, true, false⟩),
  (71, ⟨true, [.d (.bool false), .mt], [(0, 1, false), (1, 1, false)], none, none, true, false⟩),
  (73, ⟨true, [.d (.bool false), .mt, .mt], [(0, 2, true), (2, 1, false)], none, none, true, false⟩)]
noncomputable def layD : List (TypeId × TI) := [
  (3, ⟨false, [.d (.int .i64 0)], [], none, some (.int .i64), false, false⟩),
  (4, ⟨false, [.d (.bool false)], [], none, some .bool, false, false⟩),
  (23, ⟨false, [.mt], [], some .int, none, false, false⟩),
  (34, ⟨false, [.mt], [], some .rat, none, false, true⟩),
  (36, ⟨true, [.d (.int .i64 0), .d (.int .i64 0), .mt], [(0, 1, false), (1, 1, false), (2, 1, false)], none, none, true, false⟩),
  (41, ⟨false, [.mt], [], some .rat, none, false, true⟩),
  (43, ⟨true, [.d (.int .i64 0), .d (.int .i64 0), .mt], [(0, 1, false), (1, 1, false), (2, 1, false)], none, none, true, false⟩),
  (51, ⟨true, [.d (.bool false), .mt], [(0, 1, false), (1, 1, false)], none, none, true, false⟩),
  (53, ⟨true, [.d (.bool false), .mt, .mt], [(0, 2, true), (2, 1, false)], none, none, true, false⟩),
  (71, ⟨true, [.d (.bool false), .mt], [(0, 1, false), (1, 1, false)], none, none, true, false⟩),
  (73, ⟨true, [.d (.bool false), .mt, .mt], [(0, 2, true), (2, 1, false)], none, none, true, false⟩)]
theorem lay_ok : LayOk Try.prog lay := layOk_ok (by kernel_rfl)
theorem layD_ok : LayOk Try.prog layD := layOk_ok (by kernel_rfl)
theorem mix : Try.prog.follows .mixedOrders = true := by kernel_rfl

noncomputable def sg_laws_szIntS : Sig := ⟨[(false, [.d (.sl .int)]), (false, [.d (.int .i64)])], [], false, [(false, [.d (.int .i64)])], []⟩
noncomputable def c_laws_szIntS : Con := ⟨sg_laws_szIntS, Int, fun x => M_laws_szIntS x.1 x.2.1, fun r => (r, ())⟩
noncomputable def code_laws_szIntS : Code := Try.f99.body.getD .skip
noncomputable def E_laws_szIntS : Env := ⟨layD, [], [], []⟩
theorem cons_laws_szIntS : ConsOk Try.prog E_laws_szIntS.cons := consOk_nil
theorem loops_laws_szIntS : loopsIn code_laws_szIntS = [] := by kernel_rfl
theorem m_laws_szIntS : Meets Try.prog 99 c_laws_szIntS := meets_of (E := E_laws_szIntS) (code := code_laws_szIntS) mix layD_ok cons_laws_szIntS Try.func99 (by kernel_rfl) sg_laws_szIntS (by kernel_rfl) (fun y => y.1) c_laws_szIntS.out (fun _ => rfl) c_laws_szIntS.run (fun x => by kernel_rfl) (by kernel_rfl) (loops_mem loops_laws_szIntS (trivial))

noncomputable def sg_laws_szBigInt : Sig := ⟨[(true, [.d (.bool), .d (.sl .int)]), (false, [.d (.int .i64)])], [], false, [(false, [.d (.int .i64)])], []⟩
noncomputable def c_laws_szBigInt : Con := ⟨sg_laws_szBigInt, Int, fun x => M_laws_szBigInt (⟨x.1, x.2.1⟩ : Bg) x.2.2.1, fun r => (r, ())⟩
noncomputable def code_laws_szBigInt : Code := Try.f98.body.getD .skip
noncomputable def E_laws_szBigInt : Env := ⟨layD, [(99, c_laws_szIntS)], [], []⟩
theorem cons_laws_szBigInt : ConsOk Try.prog E_laws_szBigInt.cons := consOk_cons m_laws_szIntS (callable_of Try.func99 (by kernel_rfl)) (consOk_nil)
theorem loops_laws_szBigInt : loopsIn code_laws_szBigInt = [] := by kernel_rfl
theorem m_laws_szBigInt : Meets Try.prog 98 c_laws_szBigInt := meets_of (E := E_laws_szBigInt) (code := code_laws_szBigInt) mix layD_ok cons_laws_szBigInt Try.func98 (by kernel_rfl) sg_laws_szBigInt (by kernel_rfl) (fun y => y.1) c_laws_szBigInt.out (fun _ => rfl) c_laws_szBigInt.run (fun x => by kernel_rfl) (by kernel_rfl) (loops_mem loops_laws_szBigInt (trivial))

noncomputable def sg_laws_szRat : Sig := ⟨[(true, [.d (.bool), .d (.sl .int), .d (.sl .int)]), (false, [.d (.int .i64)])], [], false, [(false, [.d (.int .i64)])], []⟩
noncomputable def c_laws_szRat : Con := ⟨sg_laws_szRat, Int, fun x => M_laws_szRat (⟨x.1, x.2.1, x.2.2.1⟩ : Rt) x.2.2.2.1, fun r => (r, ())⟩
noncomputable def code_laws_szRat : Code := Try.f51.body.getD .skip
noncomputable def E_laws_szRat : Env := ⟨layD, [(98, c_laws_szBigInt), (99, c_laws_szIntS)], [], []⟩
theorem cons_laws_szRat : ConsOk Try.prog E_laws_szRat.cons := consOk_cons m_laws_szBigInt (callable_of Try.func98 (by kernel_rfl)) (consOk_cons m_laws_szIntS (callable_of Try.func99 (by kernel_rfl)) (consOk_nil))
theorem loops_laws_szRat : loopsIn code_laws_szRat = [] := by kernel_rfl
theorem m_laws_szRat : Meets Try.prog 51 c_laws_szRat := meets_of (E := E_laws_szRat) (code := code_laws_szRat) mix layD_ok cons_laws_szRat Try.func51 (by kernel_rfl) sg_laws_szRat (by kernel_rfl) (fun y => y.1) c_laws_szRat.out (fun _ => rfl) c_laws_szRat.run (fun x => by kernel_rfl) (by kernel_rfl) (loops_mem loops_laws_szRat (trivial))

noncomputable def sg_laws_szRatS : Sig := ⟨[(false, [.d (.sl .rat)]), (false, [.d (.int .i64)])], [], false, [(false, [.d (.int .i64)])], []⟩
noncomputable def c_laws_szRatS : Con := ⟨sg_laws_szRatS, Int, fun x => M_laws_szRatS x.1 x.2.1, fun r => (r, ())⟩
noncomputable def code_laws_szRatS : Code := Try.f44.body.getD .skip
noncomputable def body_laws_szRatS_0 : Code := (loopsIn code_laws_szRatS).getD 0 .skip
noncomputable def D_laws_szRatS_0 : LoopD := ⟨⟨mkSlots [(0, false, [.d (.sl .rat)]), (1, false, [.d (.int .i64)]), (5, false, [.d (.int .i64)])] 27 0, []⟩, [], [(.ret, ⟨mkSlots [(4, false, [.d (.int .i64)])] 27 0, []⟩, []), (.exit 0, ⟨mkSlots [(1, false, [.d (.int .i64)])] 27 0, []⟩, [])]⟩
noncomputable def S_laws_szRatS_0_w (x : Tys D_laws_szRatS_0.head.ks) : Option (OutT D_laws_szRatS_0.outs) := @whileO ((List Rt) × Int × Int × Unit) ((Int × Unit) ⊕ (Int × Unit)) S_laws_szRatS_0 x
noncomputable def E_laws_szRatS : Env := ⟨layD, [(51, c_laws_szRat)], [(5, mkLM D_laws_szRatS_0 S_laws_szRatS_0_w)], []⟩
theorem cons_laws_szRatS : ConsOk Try.prog E_laws_szRatS.cons := consOk_cons m_laws_szRat (callable_of Try.func51 (by kernel_rfl)) (consOk_nil)
theorem S_laws_szRatS_0_ok (x : Tys D_laws_szRatS_0.head.ks) : stepL E_laws_szRatS D_laws_szRatS_0 body_laws_szRatS_0 x = S_laws_szRatS_0 x := by kernel_rfl
theorem loops_laws_szRatS_0 : loopsIn body_laws_szRatS_0 = [] := by kernel_rfl
theorem l_laws_szRatS_0 : LoopOk Try.prog (mkLM D_laws_szRatS_0 S_laws_szRatS_0_w) body_laws_szRatS_0 := loop_ok2 mix layD_ok cons_laws_szRatS (by kernel_rfl) (loops_mem loops_laws_szRatS_0 (trivial)) S_laws_szRatS_0_ok fun _ _ h => h
theorem loops_laws_szRatS : loopsIn code_laws_szRatS = [body_laws_szRatS_0] := by kernel_rfl
theorem m_laws_szRatS : Meets Try.prog 44 c_laws_szRatS := meets_of (E := E_laws_szRatS) (code := code_laws_szRatS) mix layD_ok cons_laws_szRatS Try.func44 (by kernel_rfl) sg_laws_szRatS (by kernel_rfl) (fun y => y.1) c_laws_szRatS.out (fun _ => rfl) c_laws_szRatS.run (fun x => by kernel_rfl) (by kernel_rfl) (loops_mem loops_laws_szRatS (⟨⟨_, by kernel_rfl, l_laws_szRatS_0⟩, trivial⟩))

noncomputable def sg_laws_szMatrix : Sig := ⟨[(true, [.d (.int .i64), .d (.int .i64), .d (.sl .rat)]), (false, [.d (.int .i64)])], [], false, [(false, [.d (.int .i64)])], []⟩
noncomputable def c_laws_szMatrix : Con := ⟨sg_laws_szMatrix, Int, fun x => M_laws_szMatrix (⟨x.1, x.2.1, x.2.2.1⟩ : Mx) x.2.2.2.1, fun r => (r, ())⟩
noncomputable def code_laws_szMatrix : Code := Try.f28.body.getD .skip
noncomputable def E_laws_szMatrix : Env := ⟨layD, [(44, c_laws_szRatS)], [], []⟩
theorem cons_laws_szMatrix : ConsOk Try.prog E_laws_szMatrix.cons := consOk_cons m_laws_szRatS (callable_of Try.func44 (by kernel_rfl)) (consOk_nil)
theorem loops_laws_szMatrix : loopsIn code_laws_szMatrix = [] := by kernel_rfl
theorem m_laws_szMatrix : Meets Try.prog 28 c_laws_szMatrix := meets_of (E := E_laws_szMatrix) (code := code_laws_szMatrix) mix layD_ok cons_laws_szMatrix Try.func28 (by kernel_rfl) sg_laws_szMatrix (by kernel_rfl) (fun y => y.1) c_laws_szMatrix.out (fun _ => rfl) c_laws_szMatrix.run (fun x => by kernel_rfl) (by kernel_rfl) (loops_mem loops_laws_szMatrix (trivial))

noncomputable def sg_laws_toIntS : Sig := ⟨[(false, [.d (.sl .int)])], [], false, [(false, [.own 0])], [(0, .arr false .int)]⟩
noncomputable def c_laws_toIntS : Con := ⟨sg_laws_toIntS, List Int, fun x => M_laws_toIntS x.1, fun r => (r, ())⟩
noncomputable def code_laws_toIntS : Code := Try.f16.body.getD .skip
noncomputable def body_laws_toIntS_0 : Code := (loopsIn code_laws_toIntS).getD 0 .skip
noncomputable def D_laws_toIntS_0 : LoopD := ⟨⟨mkSlots [(0, false, [.d (.sl .int)]), (3, false, [.own 1472]), (4, false, [.d (.int .i64)])] 22 0, [(1472, .arr false .int)]⟩, [], [(.exit 0, ⟨mkSlots [(3, false, [.own 1472])] 22 0, [(1472, .arr false .int)]⟩, [])]⟩
noncomputable def S_laws_toIntS_0_w (x : Tys D_laws_toIntS_0.head.ks) : Option (OutT D_laws_toIntS_0.outs) := @whileO ((List Int) × Int × (List Int) × Unit) ((List Int) × Unit) S_laws_toIntS_0 x
noncomputable def E_laws_toIntS : Env := ⟨layD, [], [(3, mkLM D_laws_toIntS_0 S_laws_toIntS_0_w)], []⟩
theorem cons_laws_toIntS : ConsOk Try.prog E_laws_toIntS.cons := consOk_nil
theorem S_laws_toIntS_0_ok (x : Tys D_laws_toIntS_0.head.ks) : stepL E_laws_toIntS D_laws_toIntS_0 body_laws_toIntS_0 x = S_laws_toIntS_0 x := by kernel_rfl
theorem loops_laws_toIntS_0 : loopsIn body_laws_toIntS_0 = [] := by kernel_rfl
theorem l_laws_toIntS_0 : LoopOk Try.prog (mkLM D_laws_toIntS_0 S_laws_toIntS_0_w) body_laws_toIntS_0 := loop_ok2 mix layD_ok cons_laws_toIntS (by kernel_rfl) (loops_mem loops_laws_toIntS_0 (trivial)) S_laws_toIntS_0_ok fun _ _ h => h
theorem loops_laws_toIntS : loopsIn code_laws_toIntS = [body_laws_toIntS_0] := by kernel_rfl
theorem m_laws_toIntS : Meets Try.prog 16 c_laws_toIntS := meets_of (E := E_laws_toIntS) (code := code_laws_toIntS) mix layD_ok cons_laws_toIntS Try.func16 (by kernel_rfl) sg_laws_toIntS (by kernel_rfl) (fun y => y.1) c_laws_toIntS.out (fun _ => rfl) c_laws_toIntS.run (fun x => by kernel_rfl) (by kernel_rfl) (loops_mem loops_laws_toIntS (⟨⟨_, by kernel_rfl, l_laws_toIntS_0⟩, trivial⟩))

noncomputable def sg_laws_toBigInt : Sig := ⟨[(true, [.d (.bool), .d (.sl .int)])], [], false, [(true, [.d (.bool), .own 0])], [(0, .arr false .int)]⟩
noncomputable def c_laws_toBigInt : Con := ⟨sg_laws_toBigInt, Bg, fun x => M_laws_toBigInt (⟨x.1, x.2.1⟩ : Bg), fun r => (r.neg, r.mag, ())⟩
noncomputable def code_laws_toBigInt : Code := Try.f106.body.getD .skip
noncomputable def E_laws_toBigInt : Env := ⟨layD, [(16, c_laws_toIntS)], [], []⟩
theorem cons_laws_toBigInt : ConsOk Try.prog E_laws_toBigInt.cons := consOk_cons m_laws_toIntS (callable_of Try.func16 (by kernel_rfl)) (consOk_nil)
theorem loops_laws_toBigInt : loopsIn code_laws_toBigInt = [] := by kernel_rfl
theorem m_laws_toBigInt : Meets Try.prog 106 c_laws_toBigInt := meets_of (E := E_laws_toBigInt) (code := code_laws_toBigInt) mix layD_ok cons_laws_toBigInt Try.func106 (by kernel_rfl) sg_laws_toBigInt (by kernel_rfl) (fun y => (⟨y.1, y.2.1⟩ : Bg)) c_laws_toBigInt.out (fun _ => rfl) c_laws_toBigInt.run (fun x => by kernel_rfl) (by kernel_rfl) (loops_mem loops_laws_toBigInt (trivial))

noncomputable def sg_laws_toRat : Sig := ⟨[(true, [.d (.bool), .d (.sl .int), .d (.sl .int)])], [], false, [(true, [.d (.bool), .own 0, .own 1])], [(0, .arr false .int), (1, .arr false .int)]⟩
noncomputable def c_laws_toRat : Con := ⟨sg_laws_toRat, Rt, fun x => M_laws_toRat (⟨x.1, x.2.1, x.2.2.1⟩ : Rt), fun r => (r.neg, r.mag, r.den, ())⟩
noncomputable def code_laws_toRat : Code := Try.f54.body.getD .skip
noncomputable def E_laws_toRat : Env := ⟨layD, [(106, c_laws_toBigInt), (16, c_laws_toIntS)], [], []⟩
theorem cons_laws_toRat : ConsOk Try.prog E_laws_toRat.cons := consOk_cons m_laws_toBigInt (callable_of Try.func106 (by kernel_rfl)) (consOk_cons m_laws_toIntS (callable_of Try.func16 (by kernel_rfl)) (consOk_nil))
theorem loops_laws_toRat : loopsIn code_laws_toRat = [] := by kernel_rfl
theorem m_laws_toRat : Meets Try.prog 54 c_laws_toRat := meets_of (E := E_laws_toRat) (code := code_laws_toRat) mix layD_ok cons_laws_toRat Try.func54 (by kernel_rfl) sg_laws_toRat (by kernel_rfl) (fun y => (⟨y.1, y.2.1, y.2.2.1⟩ : Rt)) c_laws_toRat.out (fun _ => rfl) c_laws_toRat.run (fun x => by kernel_rfl) (by kernel_rfl) (loops_mem loops_laws_toRat (trivial))

noncomputable def sg_laws_toRatS : Sig := ⟨[(false, [.d (.sl .rat)])], [], false, [(false, [.dp 0])], [(0, .deep .rat)]⟩
noncomputable def c_laws_toRatS : Con := ⟨sg_laws_toRatS, List Rt, fun x => M_laws_toRatS x.1, fun r => (r, ())⟩
noncomputable def code_laws_toRatS : Code := Try.f46.body.getD .skip
noncomputable def body_laws_toRatS_0 : Code := (loopsIn code_laws_toRatS).getD 0 .skip
noncomputable def D_laws_toRatS_0 : LoopD := ⟨⟨mkSlots [(0, false, [.d (.sl .rat)]), (3, false, [.dp 1536]), (4, false, [.d (.int .i64)])] 23 0, [(1536, .deep .rat)]⟩, [], [(.exit 0, ⟨mkSlots [(3, false, [.dp 1536])] 23 0, [(1536, .deep .rat)]⟩, [])]⟩
noncomputable def S_laws_toRatS_0_w (x : Tys D_laws_toRatS_0.head.ks) : Option (OutT D_laws_toRatS_0.outs) := @whileO ((List Rt) × Int × (List Rt) × Unit) ((List Rt) × Unit) S_laws_toRatS_0 x
noncomputable def E_laws_toRatS : Env := ⟨layD, [(54, c_laws_toRat)], [(3, mkLM D_laws_toRatS_0 S_laws_toRatS_0_w)], []⟩
theorem cons_laws_toRatS : ConsOk Try.prog E_laws_toRatS.cons := consOk_cons m_laws_toRat (callable_of Try.func54 (by kernel_rfl)) (consOk_nil)
theorem S_laws_toRatS_0_ok (x : Tys D_laws_toRatS_0.head.ks) : stepL E_laws_toRatS D_laws_toRatS_0 body_laws_toRatS_0 x = S_laws_toRatS_0 x := by kernel_rfl
theorem loops_laws_toRatS_0 : loopsIn body_laws_toRatS_0 = [] := by kernel_rfl
theorem l_laws_toRatS_0 : LoopOk Try.prog (mkLM D_laws_toRatS_0 S_laws_toRatS_0_w) body_laws_toRatS_0 := loop_ok2 mix layD_ok cons_laws_toRatS (by kernel_rfl) (loops_mem loops_laws_toRatS_0 (trivial)) S_laws_toRatS_0_ok fun _ _ h => h
theorem loops_laws_toRatS : loopsIn code_laws_toRatS = [body_laws_toRatS_0] := by kernel_rfl
theorem m_laws_toRatS : Meets Try.prog 46 c_laws_toRatS := meets_of (E := E_laws_toRatS) (code := code_laws_toRatS) mix layD_ok cons_laws_toRatS Try.func46 (by kernel_rfl) sg_laws_toRatS (by kernel_rfl) (fun y => y.1) c_laws_toRatS.out (fun _ => rfl) c_laws_toRatS.run (fun x => by kernel_rfl) (by kernel_rfl) (loops_mem loops_laws_toRatS (⟨⟨_, by kernel_rfl, l_laws_toRatS_0⟩, trivial⟩))

noncomputable def sg_laws_toMatrix : Sig := ⟨[(true, [.d (.int .i64), .d (.int .i64), .d (.sl .rat)])], [], false, [(true, [.d (.int .i64), .d (.int .i64), .dp 0])], [(0, .deep .rat)]⟩
noncomputable def c_laws_toMatrix : Con := ⟨sg_laws_toMatrix, Mx, fun x => M_laws_toMatrix (⟨x.1, x.2.1, x.2.2.1⟩ : Mx), fun r => (r.rows, r.cols, r.cells, ())⟩
noncomputable def code_laws_toMatrix : Code := Try.f30.body.getD .skip
noncomputable def E_laws_toMatrix : Env := ⟨layD, [(46, c_laws_toRatS)], [], []⟩
theorem cons_laws_toMatrix : ConsOk Try.prog E_laws_toMatrix.cons := consOk_cons m_laws_toRatS (callable_of Try.func46 (by kernel_rfl)) (consOk_nil)
theorem loops_laws_toMatrix : loopsIn code_laws_toMatrix = [] := by kernel_rfl
theorem m_laws_toMatrix : Meets Try.prog 30 c_laws_toMatrix := meets_of (E := E_laws_toMatrix) (code := code_laws_toMatrix) mix layD_ok cons_laws_toMatrix Try.func30 (by kernel_rfl) sg_laws_toMatrix (by kernel_rfl) (fun y => (⟨y.1, y.2.1, y.2.2.1⟩ : Mx)) c_laws_toMatrix.out (fun _ => rfl) c_laws_toMatrix.run (fun x => by kernel_rfl) (by kernel_rfl) (loops_mem loops_laws_toMatrix (trivial))

noncomputable def sg_spec_l01In : Sig := ⟨[(false, [.d (.int .i64)]), (false, [.d (.int .i64)]), (false, [.d (.int .i64)])], [], false, [(false, [.d (.bool)])], []⟩
noncomputable def c_spec_l01In : Con := ⟨sg_spec_l01In, Bool, fun x => M_spec_l01In x.1 x.2.1 x.2.2.1, fun r => (r, ())⟩
noncomputable def code_spec_l01In : Code := Try.f69.body.getD .skip
noncomputable def E_spec_l01In : Env := ⟨layD, [], [], []⟩
theorem cons_spec_l01In : ConsOk Try.prog E_spec_l01In.cons := consOk_nil
theorem loops_spec_l01In : loopsIn code_spec_l01In = [] := by kernel_rfl
theorem m_spec_l01In : Meets Try.prog 69 c_spec_l01In := meets_of (E := E_spec_l01In) (code := code_spec_l01In) mix layD_ok cons_spec_l01In Try.func69 (by kernel_rfl) sg_spec_l01In (by kernel_rfl) (fun y => y.1) c_spec_l01In.out (fun _ => rfl) c_spec_l01In.run (fun x => by kernel_rfl) (by kernel_rfl) (loops_mem loops_spec_l01In (trivial))

noncomputable def sg_spec_NatOk : Sig := ⟨[(false, [.d (.sl .int)])], [], false, [(false, [.d (.bool)])], []⟩
noncomputable def c_spec_NatOk : Con := ⟨sg_spec_NatOk, Bool, fun x => M_spec_NatOk x.1, fun r => (r, ())⟩
noncomputable def code_spec_NatOk : Code := Try.f138.body.getD .skip
noncomputable def body_spec_NatOk_0 : Code := (loopsIn code_spec_NatOk).getD 0 .skip
noncomputable def D_spec_NatOk_0 : LoopD := ⟨⟨mkSlots [(0, false, [.d (.sl .int)]), (5, false, [.d (.sl .int)]), (6, false, [.d (.int .i64)]), (7, false, [.d (.int .i64)])] 32 0, []⟩, [], [(.ret, ⟨mkSlots [(2, false, [.d (.bool)])] 32 0, []⟩, []), (.exit 0, ⟨mkSlots [(0, false, [.d (.sl .int)])] 32 0, []⟩, [])]⟩
noncomputable def S_spec_NatOk_0_w (x : Tys D_spec_NatOk_0.head.ks) : Option (OutT D_spec_NatOk_0.outs) := @whileO ((List Int) × (List Int) × Int × Int × Unit) ((Bool × Unit) ⊕ ((List Int) × Unit)) S_spec_NatOk_0 x
noncomputable def E_spec_NatOk : Env := ⟨layD, [(69, c_spec_l01In)], [(2, mkLM D_spec_NatOk_0 S_spec_NatOk_0_w)], []⟩
theorem cons_spec_NatOk : ConsOk Try.prog E_spec_NatOk.cons := consOk_cons m_spec_l01In (callable_of Try.func69 (by kernel_rfl)) (consOk_nil)
theorem S_spec_NatOk_0_ok (x : Tys D_spec_NatOk_0.head.ks) : stepL E_spec_NatOk D_spec_NatOk_0 body_spec_NatOk_0 x = S_spec_NatOk_0 x := by kernel_rfl
theorem loops_spec_NatOk_0 : loopsIn body_spec_NatOk_0 = [] := by kernel_rfl
theorem l_spec_NatOk_0 : LoopOk Try.prog (mkLM D_spec_NatOk_0 S_spec_NatOk_0_w) body_spec_NatOk_0 := loop_ok2 mix layD_ok cons_spec_NatOk (by kernel_rfl) (loops_mem loops_spec_NatOk_0 (trivial)) S_spec_NatOk_0_ok fun _ _ h => h
theorem loops_spec_NatOk : loopsIn code_spec_NatOk = [body_spec_NatOk_0] := by kernel_rfl
theorem m_spec_NatOk : Meets Try.prog 138 c_spec_NatOk := meets_of (E := E_spec_NatOk) (code := code_spec_NatOk) mix layD_ok cons_spec_NatOk Try.func138 (by kernel_rfl) sg_spec_NatOk (by kernel_rfl) (fun y => y.1) c_spec_NatOk.out (fun _ => rfl) c_spec_NatOk.run (fun x => by kernel_rfl) (by kernel_rfl) (loops_mem loops_spec_NatOk (⟨⟨_, by kernel_rfl, l_spec_NatOk_0⟩, trivial⟩))

noncomputable def sg_spec_BigIntOk : Sig := ⟨[(true, [.d (.bool), .d (.sl .int)])], [], false, [(false, [.d (.bool)])], []⟩
noncomputable def c_spec_BigIntOk : Con := ⟨sg_spec_BigIntOk, Bool, fun x => M_spec_BigIntOk (⟨x.1, x.2.1⟩ : Bg), fun r => (r, ())⟩
noncomputable def code_spec_BigIntOk : Code := Try.f137.body.getD .skip
noncomputable def E_spec_BigIntOk : Env := ⟨layD, [(138, c_spec_NatOk)], [], []⟩
theorem cons_spec_BigIntOk : ConsOk Try.prog E_spec_BigIntOk.cons := consOk_cons m_spec_NatOk (callable_of Try.func138 (by kernel_rfl)) (consOk_nil)
theorem loops_spec_BigIntOk : loopsIn code_spec_BigIntOk = [] := by kernel_rfl
theorem m_spec_BigIntOk : Meets Try.prog 137 c_spec_BigIntOk := meets_of (E := E_spec_BigIntOk) (code := code_spec_BigIntOk) mix layD_ok cons_spec_BigIntOk Try.func137 (by kernel_rfl) sg_spec_BigIntOk (by kernel_rfl) (fun y => y.1) c_spec_BigIntOk.out (fun _ => rfl) c_spec_BigIntOk.run (fun x => by kernel_rfl) (by kernel_rfl) (loops_mem loops_spec_BigIntOk (trivial))

noncomputable def sg_spec_l02Cmp : Sig := ⟨[(false, [.d (.sl .int)]), (false, [.d (.sl .int)])], [], false, [(false, [.d (.int .i64)])], []⟩
noncomputable def c_spec_l02Cmp : Con := ⟨sg_spec_l02Cmp, Int, fun x => M_spec_l02Cmp x.1 x.2.1, fun r => (r, ())⟩
noncomputable def code_spec_l02Cmp : Code := Try.f170.body.getD .skip
noncomputable def body_spec_l02Cmp_0 : Code := (loopsIn code_spec_l02Cmp).getD 0 .skip
noncomputable def D_spec_l02Cmp_0 : LoopD := ⟨⟨mkSlots [(0, false, [.d (.sl .int)]), (1, false, [.d (.sl .int)]), (5, false, [.d (.int .i64)])] 41 0, []⟩, [], [(.ret, ⟨mkSlots [(4, false, [.d (.int .i64)])] 41 0, []⟩, []), (.exit 0, ⟨mkSlots [] 41 0, []⟩, [])]⟩
noncomputable def S_spec_l02Cmp_0_w (x : Tys D_spec_l02Cmp_0.head.ks) : Option (OutT D_spec_l02Cmp_0.outs) := @whileO ((List Int) × (List Int) × Int × Unit) ((Int × Unit) ⊕ (Unit)) S_spec_l02Cmp_0 x
noncomputable def E_spec_l02Cmp : Env := ⟨layD, [], [(6, mkLM D_spec_l02Cmp_0 S_spec_l02Cmp_0_w)], [(8, [(0, []), (1, []), (2, []), (3, []), (4, []), (5, []), (6, []), (7, []), (8, [])]), (10, [(0, []), (1, []), (2, []), (3, []), (4, []), (5, []), (6, []), (7, []), (8, [])])]⟩
theorem cons_spec_l02Cmp : ConsOk Try.prog E_spec_l02Cmp.cons := consOk_nil
theorem S_spec_l02Cmp_0_ok (x : Tys D_spec_l02Cmp_0.head.ks) : stepL E_spec_l02Cmp D_spec_l02Cmp_0 body_spec_l02Cmp_0 x = S_spec_l02Cmp_0 x := by kernel_rfl
theorem loops_spec_l02Cmp_0 : loopsIn body_spec_l02Cmp_0 = [] := by kernel_rfl
theorem l_spec_l02Cmp_0 : LoopOk Try.prog (mkLM D_spec_l02Cmp_0 S_spec_l02Cmp_0_w) body_spec_l02Cmp_0 := loop_ok2 mix layD_ok cons_spec_l02Cmp (by kernel_rfl) (loops_mem loops_spec_l02Cmp_0 (trivial)) S_spec_l02Cmp_0_ok fun _ _ h => h
theorem loops_spec_l02Cmp : loopsIn code_spec_l02Cmp = [body_spec_l02Cmp_0] := by kernel_rfl
theorem m_spec_l02Cmp : Meets Try.prog 170 c_spec_l02Cmp := meets_of (E := E_spec_l02Cmp) (code := code_spec_l02Cmp) mix layD_ok cons_spec_l02Cmp Try.func170 (by kernel_rfl) sg_spec_l02Cmp (by kernel_rfl) (fun y => y.1) c_spec_l02Cmp.out (fun _ => rfl) c_spec_l02Cmp.run (fun x => by kernel_rfl) (by kernel_rfl) (loops_mem loops_spec_l02Cmp (⟨⟨_, by kernel_rfl, l_spec_l02Cmp_0⟩, trivial⟩))

noncomputable def sg_spec_NatToInt : Sig := ⟨[(false, [.d (.sl .int)])], [], true, [(false, [.d (.int .i64)]), (false, [.d (.bool)])], []⟩
noncomputable def c_spec_NatToInt : Con := ⟨sg_spec_NatToInt, Int × Bool, fun x => M_spec_NatToInt x.1, fun r => (r.1, r.2, ())⟩
noncomputable def code_spec_NatToInt : Code := Try.f166.body.getD .skip
noncomputable def body_spec_NatToInt_0 : Code := (loopsIn code_spec_NatToInt).getD 0 .skip
noncomputable def D_spec_NatToInt_0 : LoopD := ⟨⟨mkSlots [(0, false, [.d (.sl .int)]), (4, false, [.d (.int .i64)]), (5, false, [.d (.int .i64)])] 30 0, []⟩, [], [(.exit 0, ⟨mkSlots [(4, false, [.d (.int .i64)])] 30 0, []⟩, [])]⟩
noncomputable def S_spec_NatToInt_0_w (x : Tys D_spec_NatToInt_0.head.ks) : Option (OutT D_spec_NatToInt_0.outs) := @whileO ((List Int) × Int × Int × Unit) (Int × Unit) S_spec_NatToInt_0 x
noncomputable def E_spec_NatToInt : Env := ⟨layD, [(138, c_spec_NatOk), (170, c_spec_l02Cmp)], [(5, mkLM D_spec_NatToInt_0 S_spec_NatToInt_0_w)], []⟩
theorem cons_spec_NatToInt : ConsOk Try.prog E_spec_NatToInt.cons := consOk_cons m_spec_NatOk (callable_of Try.func138 (by kernel_rfl)) (consOk_cons m_spec_l02Cmp (callable_of Try.func170 (by kernel_rfl)) (consOk_nil))
theorem S_spec_NatToInt_0_ok (x : Tys D_spec_NatToInt_0.head.ks) : stepL E_spec_NatToInt D_spec_NatToInt_0 body_spec_NatToInt_0 x = S_spec_NatToInt_0 x := by kernel_rfl
theorem loops_spec_NatToInt_0 : loopsIn body_spec_NatToInt_0 = [] := by kernel_rfl
theorem l_spec_NatToInt_0 : LoopOk Try.prog (mkLM D_spec_NatToInt_0 S_spec_NatToInt_0_w) body_spec_NatToInt_0 := loop_ok2 mix layD_ok cons_spec_NatToInt (by kernel_rfl) (loops_mem loops_spec_NatToInt_0 (trivial)) S_spec_NatToInt_0_ok fun _ _ h => h
theorem loops_spec_NatToInt : loopsIn code_spec_NatToInt = [body_spec_NatToInt_0] := by kernel_rfl
theorem m_spec_NatToInt : Meets Try.prog 166 c_spec_NatToInt := meets_of (E := E_spec_NatToInt) (code := code_spec_NatToInt) mix layD_ok cons_spec_NatToInt Try.func166 (by kernel_rfl) sg_spec_NatToInt (by kernel_rfl) (fun y => (y.1, y.2.1)) c_spec_NatToInt.out (fun _ => rfl) c_spec_NatToInt.run (fun x => by kernel_rfl) (by kernel_rfl) (loops_mem loops_spec_NatToInt (⟨⟨_, by kernel_rfl, l_spec_NatToInt_0⟩, trivial⟩))

noncomputable def sg_spec_NatOf : Sig := ⟨[(false, [.d (.int .i64)])], [], false, [(false, [.own 0])], [(0, .arr false .int)]⟩
noncomputable def c_spec_NatOf : Con := ⟨sg_spec_NatOf, List Int, fun x => M_spec_NatOf x.1, fun r => (r, ())⟩
noncomputable def code_spec_NatOf : Code := Try.f153.body.getD .skip
noncomputable def body_spec_NatOf_0 : Code := (loopsIn code_spec_NatOf).getD 0 .skip
noncomputable def D_spec_NatOf_0 : LoopD := ⟨⟨mkSlots [(0, false, [.d (.int .i64)]), (3, false, [.own 1024])] 15 0, [(1024, .arr false .int)]⟩, [(.slot 3 0, 1024, .int)], [(.exit 0, ⟨mkSlots [(3, false, [.own 1024])] 15 0, [(1024, .arr false .int)]⟩, [(.slot 3 0, 1024, .int)])]⟩
noncomputable def S_spec_NatOf_0_w (x : Tys D_spec_NatOf_0.head.ks) : Option (OutT D_spec_NatOf_0.outs) := @whileO (Int × (List Int) × Unit) ((List Int) × Unit) S_spec_NatOf_0 x
noncomputable def E_spec_NatOf : Env := ⟨layD, [], [(2, mkLM D_spec_NatOf_0 S_spec_NatOf_0_w)], []⟩
theorem cons_spec_NatOf : ConsOk Try.prog E_spec_NatOf.cons := consOk_nil
theorem S_spec_NatOf_0_ok (x : Tys D_spec_NatOf_0.head.ks) : stepL E_spec_NatOf D_spec_NatOf_0 body_spec_NatOf_0 x = S_spec_NatOf_0 x := by kernel_rfl
theorem loops_spec_NatOf_0 : loopsIn body_spec_NatOf_0 = [] := by kernel_rfl
theorem l_spec_NatOf_0 : LoopOk Try.prog (mkLM D_spec_NatOf_0 S_spec_NatOf_0_w) body_spec_NatOf_0 := loop_ok2 mix layD_ok cons_spec_NatOf (by kernel_rfl) (loops_mem loops_spec_NatOf_0 (trivial)) S_spec_NatOf_0_ok fun _ _ h => h
theorem loops_spec_NatOf : loopsIn code_spec_NatOf = [body_spec_NatOf_0] := by kernel_rfl
theorem m_spec_NatOf : Meets Try.prog 153 c_spec_NatOf := meets_of (E := E_spec_NatOf) (code := code_spec_NatOf) mix layD_ok cons_spec_NatOf Try.func153 (by kernel_rfl) sg_spec_NatOf (by kernel_rfl) (fun y => y.1) c_spec_NatOf.out (fun _ => rfl) c_spec_NatOf.run (fun x => by kernel_rfl) (by kernel_rfl) (loops_mem loops_spec_NatOf (⟨⟨_, by kernel_rfl, l_spec_NatOf_0⟩, trivial⟩))

noncomputable def sg_spec_l02Plain : Sig := ⟨[(false, [.d (.int .i64)]), (false, [.d (.int .i64)])], [], false, [(false, [.own 0])], [(0, .arr false .int)]⟩
noncomputable def c_spec_l02Plain : Con := ⟨sg_spec_l02Plain, List Int, fun x => M_spec_l02Plain x.1 x.2.1, fun r => (r, ())⟩
noncomputable def code_spec_l02Plain : Code := Try.f167.body.getD .skip
noncomputable def body_spec_l02Plain_0 : Code := (loopsIn code_spec_l02Plain).getD 0 .skip
noncomputable def D_spec_l02Plain_0 : LoopD := ⟨⟨mkSlots [(0, false, [.d (.int .i64)]), (1, false, [.d (.int .i64)])] 15 0, []⟩, [], [(.exit 0, ⟨mkSlots [(0, false, [.d (.int .i64)])] 15 0, []⟩, [])]⟩
noncomputable def S_spec_l02Plain_0_w (x : Tys D_spec_l02Plain_0.head.ks) : Option (OutT D_spec_l02Plain_0.outs) := @whileO (Int × Int × Unit) (Int × Unit) S_spec_l02Plain_0 x
noncomputable def E_spec_l02Plain : Env := ⟨layD, [(153, c_spec_NatOf)], [(1, mkLM D_spec_l02Plain_0 S_spec_l02Plain_0_w)], []⟩
theorem cons_spec_l02Plain : ConsOk Try.prog E_spec_l02Plain.cons := consOk_cons m_spec_NatOf (callable_of Try.func153 (by kernel_rfl)) (consOk_nil)
theorem S_spec_l02Plain_0_ok (x : Tys D_spec_l02Plain_0.head.ks) : stepL E_spec_l02Plain D_spec_l02Plain_0 body_spec_l02Plain_0 x = S_spec_l02Plain_0 x := by kernel_rfl
theorem loops_spec_l02Plain_0 : loopsIn body_spec_l02Plain_0 = [] := by kernel_rfl
theorem l_spec_l02Plain_0 : LoopOk Try.prog (mkLM D_spec_l02Plain_0 S_spec_l02Plain_0_w) body_spec_l02Plain_0 := loop_ok2 mix layD_ok cons_spec_l02Plain (by kernel_rfl) (loops_mem loops_spec_l02Plain_0 (trivial)) S_spec_l02Plain_0_ok fun _ _ h => h
theorem loops_spec_l02Plain : loopsIn code_spec_l02Plain = [body_spec_l02Plain_0] := by kernel_rfl
theorem m_spec_l02Plain : Meets Try.prog 167 c_spec_l02Plain := meets_of (E := E_spec_l02Plain) (code := code_spec_l02Plain) mix layD_ok cons_spec_l02Plain Try.func167 (by kernel_rfl) sg_spec_l02Plain (by kernel_rfl) (fun y => y.1) c_spec_l02Plain.out (fun _ => rfl) c_spec_l02Plain.run (fun x => by kernel_rfl) (by kernel_rfl) (loops_mem loops_spec_l02Plain (⟨⟨_, by kernel_rfl, l_spec_l02Plain_0⟩, trivial⟩))

noncomputable def sg_spec_l02Trim_c : Sig := ⟨[(false, [.own 0])], [(0, .arr false .int)], false, [(false, [.own 0])], [(0, .arr false .int)]⟩
noncomputable def c_spec_l02Trim_c : Con := ⟨sg_spec_l02Trim_c, List Int, fun x => M_spec_l02Trim_c x.1, fun r => (r, ())⟩
noncomputable def code_spec_l02Trim_c : Code := Try.f172.body.getD .skip
noncomputable def body_spec_l02Trim_c_0 : Code := (loopsIn code_spec_l02Trim_c).getD 0 .skip
noncomputable def D_spec_l02Trim_c_0 : LoopD := ⟨⟨mkSlots [(0, false, [.own 1408]), (3, false, [.d (.int .i64)])] 21 0, [(1408, .arr false .int)]⟩, [], [(.exit 0, ⟨mkSlots [(0, false, [.own 1408]), (3, false, [.d (.int .i64)])] 21 0, [(1408, .arr false .int)]⟩, [])]⟩
noncomputable def S_spec_l02Trim_c_0_w (x : Tys D_spec_l02Trim_c_0.head.ks) : Option (OutT D_spec_l02Trim_c_0.outs) := @whileO (Int × (List Int) × Unit) (Int × (List Int) × Unit) S_spec_l02Trim_c_0 x
noncomputable def E_spec_l02Trim_c : Env := ⟨layD, [], [(2, mkLM D_spec_l02Trim_c_0 S_spec_l02Trim_c_0_w)], []⟩
theorem cons_spec_l02Trim_c : ConsOk Try.prog E_spec_l02Trim_c.cons := consOk_nil
theorem S_spec_l02Trim_c_0_ok (x : Tys D_spec_l02Trim_c_0.head.ks) : stepL E_spec_l02Trim_c D_spec_l02Trim_c_0 body_spec_l02Trim_c_0 x = S_spec_l02Trim_c_0 x := by kernel_rfl
theorem loops_spec_l02Trim_c_0 : loopsIn body_spec_l02Trim_c_0 = [] := by kernel_rfl
theorem l_spec_l02Trim_c_0 : LoopOk Try.prog (mkLM D_spec_l02Trim_c_0 S_spec_l02Trim_c_0_w) body_spec_l02Trim_c_0 := loop_ok2 mix layD_ok cons_spec_l02Trim_c (by kernel_rfl) (loops_mem loops_spec_l02Trim_c_0 (trivial)) S_spec_l02Trim_c_0_ok fun _ _ h => h
theorem loops_spec_l02Trim_c : loopsIn code_spec_l02Trim_c = [body_spec_l02Trim_c_0] := by kernel_rfl
theorem m_spec_l02Trim_c : Meets Try.prog 172 c_spec_l02Trim_c := meets_of (E := E_spec_l02Trim_c) (code := code_spec_l02Trim_c) mix layD_ok cons_spec_l02Trim_c Try.func172 (by kernel_rfl) sg_spec_l02Trim_c (by kernel_rfl) (fun y => y.1) c_spec_l02Trim_c.out (fun _ => rfl) c_spec_l02Trim_c.run (fun x => by kernel_rfl) (by kernel_rfl) (loops_mem loops_spec_l02Trim_c (⟨⟨_, by kernel_rfl, l_spec_l02Trim_c_0⟩, trivial⟩))

noncomputable def sg_spec_l02Small : Sig := ⟨[(false, [.d (.sl .int)]), (false, [.d (.int .i64)])], [], true, [(false, [.own 0]), (false, [.d (.int .i64)])], [(0, .arr false .int)]⟩
noncomputable def c_spec_l02Small : Con := ⟨sg_spec_l02Small, List Int × Int, fun x => M_spec_l02Small x.1 x.2.1, fun r => (r.2, r.1, ())⟩
noncomputable def code_spec_l02Small : Code := Try.f179.body.getD .skip
noncomputable def body_spec_l02Small_0 : Code := (loopsIn code_spec_l02Small).getD 0 .skip
noncomputable def D_spec_l02Small_0 : LoopD := ⟨⟨mkSlots [(0, false, [.d (.sl .int)]), (1, false, [.d (.int .i64)]), (6, false, [.own 2560]), (7, false, [.d (.int .i64)]), (8, false, [.d (.int .i64)])] 39 0, [(2560, .arr false .int)]⟩, [], [(.exit 0, ⟨mkSlots [(6, false, [.own 2560]), (7, false, [.d (.int .i64)])] 39 0, [(2560, .arr false .int)]⟩, [])]⟩
noncomputable def S_spec_l02Small_0_w (x : Tys D_spec_l02Small_0.head.ks) : Option (OutT D_spec_l02Small_0.outs) := @whileO ((List Int) × Int × Int × Int × (List Int) × Unit) (Int × (List Int) × Unit) S_spec_l02Small_0 x
noncomputable def E_spec_l02Small : Env := ⟨layD, [(172, c_spec_l02Trim_c)], [(4, mkLM D_spec_l02Small_0 S_spec_l02Small_0_w)], []⟩
theorem cons_spec_l02Small : ConsOk Try.prog E_spec_l02Small.cons := consOk_cons m_spec_l02Trim_c (callable_of Try.func172 (by kernel_rfl)) (consOk_nil)
theorem S_spec_l02Small_0_ok (x : Tys D_spec_l02Small_0.head.ks) : stepL E_spec_l02Small D_spec_l02Small_0 body_spec_l02Small_0 x = S_spec_l02Small_0 x := by kernel_rfl
theorem loops_spec_l02Small_0 : loopsIn body_spec_l02Small_0 = [] := by kernel_rfl
theorem l_spec_l02Small_0 : LoopOk Try.prog (mkLM D_spec_l02Small_0 S_spec_l02Small_0_w) body_spec_l02Small_0 := loop_ok2 mix layD_ok cons_spec_l02Small (by kernel_rfl) (loops_mem loops_spec_l02Small_0 (trivial)) S_spec_l02Small_0_ok fun _ _ h => h
theorem loops_spec_l02Small : loopsIn code_spec_l02Small = [body_spec_l02Small_0] := by kernel_rfl
theorem m_spec_l02Small : Meets Try.prog 179 c_spec_l02Small := meets_of (E := E_spec_l02Small) (code := code_spec_l02Small) mix layD_ok cons_spec_l02Small Try.func179 (by kernel_rfl) sg_spec_l02Small (by kernel_rfl) (fun y => (y.2.1, y.1)) c_spec_l02Small.out (fun _ => rfl) c_spec_l02Small.run (fun x => by kernel_rfl) (by kernel_rfl) (loops_mem loops_spec_l02Small (⟨⟨_, by kernel_rfl, l_spec_l02Small_0⟩, trivial⟩))

noncomputable def sg_spec_l02Mul : Sig := ⟨[(false, [.d (.sl .int)]), (false, [.d (.sl .int)])], [], false, [(false, [.own 0])], [(0, .arr false .int)]⟩
noncomputable def c_spec_l02Mul : Con := ⟨sg_spec_l02Mul, List Int, fun x => M_spec_l02Mul x.1 x.2.1, fun r => (r, ())⟩
noncomputable def code_spec_l02Mul : Code := Try.f144.body.getD .skip
noncomputable def body_spec_l02Mul_0 : Code := (loopsIn code_spec_l02Mul).getD 0 .skip
noncomputable def body_spec_l02Mul_1 : Code := (loopsIn body_spec_l02Mul_0).getD 0 .skip
noncomputable def D_spec_l02Mul_0 : LoopD := ⟨⟨mkSlots [(1, false, [.d (.sl .int)]), (5, false, [.own 4672]), (26, false, [.d (.sl .int)]), (27, false, [.d (.int .i64)]), (28, false, [.d (.int .i64)])] 72 0, [(4672, .arr false .int)]⟩, [], [(.exit 0, ⟨mkSlots [(5, false, [.own 4672])] 72 0, [(4672, .arr false .int)]⟩, [])]⟩
noncomputable def D_spec_l02Mul_1 : LoopD := ⟨⟨mkSlots [(1, false, [.d (.sl .int)]), (5, false, [.own 4672]), (6, false, [.d (.int .i64)]), (7, false, [.d (.int .i64)]), (8, false, [.d (.int .i64)]), (26, false, [.d (.sl .int)]), (27, false, [.d (.int .i64)]), (28, false, [.d (.int .i64)]), (33, false, [.d (.sl .int)]), (34, false, [.d (.int .i64)]), (35, false, [.d (.int .i64)])] 72 0, [(4672, .arr false .int)]⟩, [], [(.exit 2, ⟨mkSlots [(1, false, [.d (.sl .int)]), (5, false, [.own 4672]), (6, false, [.d (.int .i64)]), (8, false, [.d (.int .i64)]), (26, false, [.d (.sl .int)]), (27, false, [.d (.int .i64)]), (28, false, [.d (.int .i64)])] 72 0, [(4672, .arr false .int)]⟩, [])]⟩
noncomputable def S_spec_l02Mul_0_w (x : Tys D_spec_l02Mul_0.head.ks) : Option (OutT D_spec_l02Mul_0.outs) := @whileO ((List Int) × (List Int) × Int × Int × (List Int) × Unit) ((List Int) × Unit) S_spec_l02Mul_0 x
noncomputable def S_spec_l02Mul_1_w (x : Tys D_spec_l02Mul_1.head.ks) : Option (OutT D_spec_l02Mul_1.outs) := @whileO ((List Int) × Int × Int × Int × (List Int) × Int × Int × (List Int) × Int × Int × (List Int) × Unit) ((List Int) × Int × Int × (List Int) × Int × Int × (List Int) × Unit) S_spec_l02Mul_1 x
noncomputable def E_spec_l02Mul : Env := ⟨layD, [(172, c_spec_l02Trim_c)], [(5, mkLM D_spec_l02Mul_0 S_spec_l02Mul_0_w), (9, mkLM D_spec_l02Mul_1 S_spec_l02Mul_1_w)], []⟩
theorem cons_spec_l02Mul : ConsOk Try.prog E_spec_l02Mul.cons := consOk_cons m_spec_l02Trim_c (callable_of Try.func172 (by kernel_rfl)) (consOk_nil)
theorem S_spec_l02Mul_1_ok (x : Tys D_spec_l02Mul_1.head.ks) : stepL E_spec_l02Mul D_spec_l02Mul_1 body_spec_l02Mul_1 x = S_spec_l02Mul_1 x := by kernel_rfl
theorem loops_spec_l02Mul_1 : loopsIn body_spec_l02Mul_1 = [] := by kernel_rfl
theorem l_spec_l02Mul_1 : LoopOk Try.prog (mkLM D_spec_l02Mul_1 S_spec_l02Mul_1_w) body_spec_l02Mul_1 := loop_ok2 mix layD_ok cons_spec_l02Mul (by kernel_rfl) (loops_mem loops_spec_l02Mul_1 (trivial)) S_spec_l02Mul_1_ok fun _ _ h => h
theorem S_spec_l02Mul_0_ok (x : Tys D_spec_l02Mul_0.head.ks) : stepL E_spec_l02Mul D_spec_l02Mul_0 body_spec_l02Mul_0 x = S_spec_l02Mul_0 x := by kernel_rfl
theorem loops_spec_l02Mul_0 : loopsIn body_spec_l02Mul_0 = [body_spec_l02Mul_1] := by kernel_rfl
theorem l_spec_l02Mul_0 : LoopOk Try.prog (mkLM D_spec_l02Mul_0 S_spec_l02Mul_0_w) body_spec_l02Mul_0 := loop_ok2 mix layD_ok cons_spec_l02Mul (by kernel_rfl) (loops_mem loops_spec_l02Mul_0 (⟨⟨_, by kernel_rfl, l_spec_l02Mul_1⟩, trivial⟩)) S_spec_l02Mul_0_ok fun _ _ h => h
theorem loops_spec_l02Mul : loopsIn code_spec_l02Mul = [body_spec_l02Mul_0] := by kernel_rfl
theorem m_spec_l02Mul : Meets Try.prog 144 c_spec_l02Mul := meets_of (E := E_spec_l02Mul) (code := code_spec_l02Mul) mix layD_ok cons_spec_l02Mul Try.func144 (by kernel_rfl) sg_spec_l02Mul (by kernel_rfl) (fun y => y.1) c_spec_l02Mul.out (fun _ => rfl) c_spec_l02Mul.run (fun x => by kernel_rfl) (by kernel_rfl) (loops_mem loops_spec_l02Mul (⟨⟨_, by kernel_rfl, l_spec_l02Mul_0⟩, trivial⟩))

noncomputable def sg_spec_l02Digit : Sig := ⟨[(false, [.d (.sl .int)]), (false, [.d (.sl .int)])], [], false, [(false, [.d (.int .i64)])], []⟩
noncomputable def c_spec_l02Digit : Con := ⟨sg_spec_l02Digit, Int, fun x => M_spec_l02Digit x.1 x.2.1, fun r => (r, ())⟩
noncomputable def code_spec_l02Digit : Code := Try.f180.body.getD .skip
noncomputable def body_spec_l02Digit_0 : Code := (loopsIn code_spec_l02Digit).getD 0 .skip
noncomputable def D_spec_l02Digit_0 : LoopD := ⟨⟨mkSlots [(0, false, [.d (.sl .int)]), (1, false, [.d (.sl .int)]), (5, false, [.d (.int .i64)]), (6, false, [.d (.int .i64)])] 27 0, []⟩, [], [(.exit 0, ⟨mkSlots [(5, false, [.d (.int .i64)])] 27 0, []⟩, [])]⟩
noncomputable def S_spec_l02Digit_0_w (x : Tys D_spec_l02Digit_0.head.ks) : Option (OutT D_spec_l02Digit_0.outs) := @whileO ((List Int) × (List Int) × Int × Int × Unit) (Int × Unit) S_spec_l02Digit_0 x
noncomputable def E_spec_l02Digit : Env := ⟨layD, [(153, c_spec_NatOf), (144, c_spec_l02Mul), (170, c_spec_l02Cmp)], [(3, mkLM D_spec_l02Digit_0 S_spec_l02Digit_0_w)], []⟩
theorem cons_spec_l02Digit : ConsOk Try.prog E_spec_l02Digit.cons := consOk_cons m_spec_NatOf (callable_of Try.func153 (by kernel_rfl)) (consOk_cons m_spec_l02Mul (callable_of Try.func144 (by kernel_rfl)) (consOk_cons m_spec_l02Cmp (callable_of Try.func170 (by kernel_rfl)) (consOk_nil)))
theorem S_spec_l02Digit_0_ok (x : Tys D_spec_l02Digit_0.head.ks) : stepL E_spec_l02Digit D_spec_l02Digit_0 body_spec_l02Digit_0 x = S_spec_l02Digit_0 x := by kernel_rfl
theorem loops_spec_l02Digit_0 : loopsIn body_spec_l02Digit_0 = [] := by kernel_rfl
theorem l_spec_l02Digit_0 : LoopOk Try.prog (mkLM D_spec_l02Digit_0 S_spec_l02Digit_0_w) body_spec_l02Digit_0 := loop_ok2 mix layD_ok cons_spec_l02Digit (by kernel_rfl) (loops_mem loops_spec_l02Digit_0 (trivial)) S_spec_l02Digit_0_ok fun _ _ h => h
theorem loops_spec_l02Digit : loopsIn code_spec_l02Digit = [body_spec_l02Digit_0] := by kernel_rfl
theorem m_spec_l02Digit : Meets Try.prog 180 c_spec_l02Digit := meets_of (E := E_spec_l02Digit) (code := code_spec_l02Digit) mix layD_ok cons_spec_l02Digit Try.func180 (by kernel_rfl) sg_spec_l02Digit (by kernel_rfl) (fun y => y.1) c_spec_l02Digit.out (fun _ => rfl) c_spec_l02Digit.run (fun x => by kernel_rfl) (by kernel_rfl) (loops_mem loops_spec_l02Digit (⟨⟨_, by kernel_rfl, l_spec_l02Digit_0⟩, trivial⟩))

noncomputable def sg_spec_l02Sub : Sig := ⟨[(false, [.d (.sl .int)]), (false, [.d (.sl .int)])], [], false, [(false, [.own 0])], [(0, .arr false .int)]⟩
noncomputable def c_spec_l02Sub : Con := ⟨sg_spec_l02Sub, List Int, fun x => M_spec_l02Sub x.1 x.2.1, fun r => (r, ())⟩
noncomputable def code_spec_l02Sub : Code := Try.f171.body.getD .skip
noncomputable def body_spec_l02Sub_0 : Code := (loopsIn code_spec_l02Sub).getD 0 .skip
noncomputable def D_spec_l02Sub_0 : LoopD := ⟨⟨mkSlots [(0, false, [.d (.sl .int)]), (1, false, [.d (.sl .int)]), (5, false, [.own 2752]), (6, false, [.d (.int .i64)]), (11, false, [.d (.int .i64)]), (12, false, [.d (.int .i64)])] 42 0, [(2752, .arr false .int)]⟩, [(.slot 5 0, 2752, .int)], [(.exit 0, ⟨mkSlots [(5, false, [.own 2752])] 42 0, [(2752, .arr false .int)]⟩, [(.slot 5 0, 2752, .int)])]⟩
noncomputable def S_spec_l02Sub_0_w (x : Tys D_spec_l02Sub_0.head.ks) : Option (OutT D_spec_l02Sub_0.outs) := @whileO ((List Int) × (List Int) × Int × Int × Int × (List Int) × Unit) ((List Int) × Unit) S_spec_l02Sub_0 x
noncomputable def E_spec_l02Sub : Env := ⟨layD, [(172, c_spec_l02Trim_c)], [(4, mkLM D_spec_l02Sub_0 S_spec_l02Sub_0_w)], []⟩
theorem cons_spec_l02Sub : ConsOk Try.prog E_spec_l02Sub.cons := consOk_cons m_spec_l02Trim_c (callable_of Try.func172 (by kernel_rfl)) (consOk_nil)
theorem S_spec_l02Sub_0_ok (x : Tys D_spec_l02Sub_0.head.ks) : stepL E_spec_l02Sub D_spec_l02Sub_0 body_spec_l02Sub_0 x = S_spec_l02Sub_0 x := by kernel_rfl
theorem loops_spec_l02Sub_0 : loopsIn body_spec_l02Sub_0 = [] := by kernel_rfl
theorem l_spec_l02Sub_0 : LoopOk Try.prog (mkLM D_spec_l02Sub_0 S_spec_l02Sub_0_w) body_spec_l02Sub_0 := loop_ok2 mix layD_ok cons_spec_l02Sub (by kernel_rfl) (loops_mem loops_spec_l02Sub_0 (trivial)) S_spec_l02Sub_0_ok fun _ _ h => h
theorem loops_spec_l02Sub : loopsIn code_spec_l02Sub = [body_spec_l02Sub_0] := by kernel_rfl
theorem m_spec_l02Sub : Meets Try.prog 171 c_spec_l02Sub := meets_of (E := E_spec_l02Sub) (code := code_spec_l02Sub) mix layD_ok cons_spec_l02Sub Try.func171 (by kernel_rfl) sg_spec_l02Sub (by kernel_rfl) (fun y => y.1) c_spec_l02Sub.out (fun _ => rfl) c_spec_l02Sub.run (fun x => by kernel_rfl) (by kernel_rfl) (loops_mem loops_spec_l02Sub (⟨⟨_, by kernel_rfl, l_spec_l02Sub_0⟩, trivial⟩))

noncomputable def sg_spec_l02Div : Sig := ⟨[(false, [.d (.sl .int)]), (false, [.d (.sl .int)])], [], true, [(false, [.own 0]), (false, [.own 1])], [(0, .arr false .int), (1, .arr false .int)]⟩
noncomputable def c_spec_l02Div : Con := ⟨sg_spec_l02Div, List Int × List Int, fun x => M_spec_l02Div x.1 x.2.1, fun r => (r.1, r.2, ())⟩
noncomputable def code_spec_l02Div : Code := Try.f168.body.getD .skip
noncomputable def body_spec_l02Div_0 : Code := (loopsIn code_spec_l02Div).getD 0 .skip
noncomputable def D_spec_l02Div_0 : LoopD := ⟨⟨mkSlots [(0, false, [.d (.sl .int)]), (1, false, [.d (.sl .int)]), (8, false, [.own 4224]), (9, false, [.own 4288]), (10, false, [.d (.int .i64)])] 65 0, [(4224, .arr false .int), (4288, .arr false .int)]⟩, [(.slot 9 0, 4288, .int)], [(.exit 0, ⟨mkSlots [(8, false, [.own 4224]), (9, false, [.own 4288])] 65 0, [(4224, .arr false .int), (4288, .arr false .int)]⟩, [(.slot 9 0, 4288, .int)])]⟩
noncomputable def S_spec_l02Div_0_w (x : Tys D_spec_l02Div_0.head.ks) : Option (OutT D_spec_l02Div_0.outs) := @whileO ((List Int) × (List Int) × Int × (List Int) × (List Int) × Unit) ((List Int) × (List Int) × Unit) S_spec_l02Div_0 x
noncomputable def E_spec_l02Div : Env := ⟨layD, [(179, c_spec_l02Small), (153, c_spec_NatOf), (172, c_spec_l02Trim_c), (170, c_spec_l02Cmp), (180, c_spec_l02Digit), (144, c_spec_l02Mul), (171, c_spec_l02Sub)], [(7, mkLM D_spec_l02Div_0 S_spec_l02Div_0_w)], []⟩
theorem cons_spec_l02Div : ConsOk Try.prog E_spec_l02Div.cons := consOk_cons m_spec_l02Small (callable_of Try.func179 (by kernel_rfl)) (consOk_cons m_spec_NatOf (callable_of Try.func153 (by kernel_rfl)) (consOk_cons m_spec_l02Trim_c (callable_of Try.func172 (by kernel_rfl)) (consOk_cons m_spec_l02Cmp (callable_of Try.func170 (by kernel_rfl)) (consOk_cons m_spec_l02Digit (callable_of Try.func180 (by kernel_rfl)) (consOk_cons m_spec_l02Mul (callable_of Try.func144 (by kernel_rfl)) (consOk_cons m_spec_l02Sub (callable_of Try.func171 (by kernel_rfl)) (consOk_nil)))))))
theorem S_spec_l02Div_0_ok (x : Tys D_spec_l02Div_0.head.ks) : stepL E_spec_l02Div D_spec_l02Div_0 body_spec_l02Div_0 x = S_spec_l02Div_0 x := by kernel_rfl
theorem loops_spec_l02Div_0 : loopsIn body_spec_l02Div_0 = [] := by kernel_rfl
theorem l_spec_l02Div_0 : LoopOk Try.prog (mkLM D_spec_l02Div_0 S_spec_l02Div_0_w) body_spec_l02Div_0 := loop_ok2 mix layD_ok cons_spec_l02Div (by kernel_rfl) (loops_mem loops_spec_l02Div_0 (trivial)) S_spec_l02Div_0_ok fun _ _ h => h
theorem loops_spec_l02Div : loopsIn code_spec_l02Div = [body_spec_l02Div_0] := by kernel_rfl
theorem m_spec_l02Div : Meets Try.prog 168 c_spec_l02Div := meets_of (E := E_spec_l02Div) (code := code_spec_l02Div) mix layD_ok cons_spec_l02Div Try.func168 (by kernel_rfl) sg_spec_l02Div (by kernel_rfl) (fun y => (y.1, y.2.1)) c_spec_l02Div.out (fun _ => rfl) c_spec_l02Div.run (fun x => by kernel_rfl) (by kernel_rfl) (loops_mem loops_spec_l02Div (⟨⟨_, by kernel_rfl, l_spec_l02Div_0⟩, trivial⟩))

noncomputable def sg_spec_l02Gcd : Sig := ⟨[(false, [.d (.sl .int)]), (false, [.d (.sl .int)])], [], false, [(false, [.own 0])], [(0, .arr false .int)]⟩
noncomputable def c_spec_l02Gcd : Con := ⟨sg_spec_l02Gcd, List Int, fun x => M_spec_l02Gcd x.1 x.2.1, fun r => (r, ())⟩
noncomputable def code_spec_l02Gcd : Code := Try.f140.body.getD .skip
noncomputable def body_spec_l02Gcd_0 : Code := (loopsIn code_spec_l02Gcd).getD 0 .skip
noncomputable def D_spec_l02Gcd_0 : LoopD := ⟨⟨mkSlots [(5, false, [.own 3392]), (6, false, [.own 3456])] 52 0, [(3392, .arr false .int), (3456, .arr false .int)]⟩, [], [(.ret, ⟨mkSlots [(4, false, [.own 3520])] 52 0, [(3520, .arr false .int)]⟩, []), (.exit 0, ⟨mkSlots [(5, false, [.own 3392])] 52 0, [(3392, .arr false .int)]⟩, [])]⟩
noncomputable def S_spec_l02Gcd_0_w (x : Tys D_spec_l02Gcd_0.head.ks) : Option (OutT D_spec_l02Gcd_0.outs) := @whileO ((List Int) × (List Int) × Unit) (((List Int) × Unit) ⊕ ((List Int) × Unit)) S_spec_l02Gcd_0 x
noncomputable def E_spec_l02Gcd : Env := ⟨layD, [(166, c_spec_NatToInt), (167, c_spec_l02Plain), (168, c_spec_l02Div)], [(3, mkLM D_spec_l02Gcd_0 S_spec_l02Gcd_0_w)], []⟩
theorem cons_spec_l02Gcd : ConsOk Try.prog E_spec_l02Gcd.cons := consOk_cons m_spec_NatToInt (callable_of Try.func166 (by kernel_rfl)) (consOk_cons m_spec_l02Plain (callable_of Try.func167 (by kernel_rfl)) (consOk_cons m_spec_l02Div (callable_of Try.func168 (by kernel_rfl)) (consOk_nil)))
theorem S_spec_l02Gcd_0_ok (x : Tys D_spec_l02Gcd_0.head.ks) : stepL E_spec_l02Gcd D_spec_l02Gcd_0 body_spec_l02Gcd_0 x = S_spec_l02Gcd_0 x := by kernel_rfl
theorem loops_spec_l02Gcd_0 : loopsIn body_spec_l02Gcd_0 = [] := by kernel_rfl
theorem l_spec_l02Gcd_0 : LoopOk Try.prog (mkLM D_spec_l02Gcd_0 S_spec_l02Gcd_0_w) body_spec_l02Gcd_0 := loop_ok2 mix layD_ok cons_spec_l02Gcd (by kernel_rfl) (loops_mem loops_spec_l02Gcd_0 (trivial)) S_spec_l02Gcd_0_ok fun _ _ h => h
theorem loops_spec_l02Gcd : loopsIn code_spec_l02Gcd = [body_spec_l02Gcd_0] := by kernel_rfl
theorem m_spec_l02Gcd : Meets Try.prog 140 c_spec_l02Gcd := meets_of (E := E_spec_l02Gcd) (code := code_spec_l02Gcd) mix layD_ok cons_spec_l02Gcd Try.func140 (by kernel_rfl) sg_spec_l02Gcd (by kernel_rfl) (fun y => y.1) c_spec_l02Gcd.out (fun _ => rfl) c_spec_l02Gcd.run (fun x => by kernel_rfl) (by kernel_rfl) (loops_mem loops_spec_l02Gcd (⟨⟨_, by kernel_rfl, l_spec_l02Gcd_0⟩, trivial⟩))

noncomputable def sg_spec_l04One : Sig := ⟨[(false, [.d (.sl .int)])], [], false, [(false, [.d (.bool)])], []⟩
noncomputable def c_spec_l04One : Con := ⟨sg_spec_l04One, Bool, fun x => M_spec_l04One x.1, fun r => (r, ())⟩
noncomputable def code_spec_l04One : Code := Try.f139.body.getD .skip
noncomputable def E_spec_l04One : Env := ⟨layD, [], [], []⟩
theorem cons_spec_l04One : ConsOk Try.prog E_spec_l04One.cons := consOk_nil
theorem loops_spec_l04One : loopsIn code_spec_l04One = [] := by kernel_rfl
theorem m_spec_l04One : Meets Try.prog 139 c_spec_l04One := meets_of (E := E_spec_l04One) (code := code_spec_l04One) mix layD_ok cons_spec_l04One Try.func139 (by kernel_rfl) sg_spec_l04One (by kernel_rfl) (fun y => y.1) c_spec_l04One.out (fun _ => rfl) c_spec_l04One.run (fun x => by kernel_rfl) (by kernel_rfl) (loops_mem loops_spec_l04One (trivial))

noncomputable def sg_spec_RatOk : Sig := ⟨[(true, [.d (.bool), .d (.sl .int), .d (.sl .int)])], [], false, [(false, [.d (.bool)])], []⟩
noncomputable def c_spec_RatOk : Con := ⟨sg_spec_RatOk, Bool, fun x => M_spec_RatOk (⟨x.1, x.2.1, x.2.2.1⟩ : Rt), fun r => (r, ())⟩
noncomputable def code_spec_RatOk : Code := Try.f101.body.getD .skip
noncomputable def E_spec_RatOk : Env := ⟨layD, [(137, c_spec_BigIntOk), (138, c_spec_NatOk), (140, c_spec_l02Gcd), (139, c_spec_l04One)], [], []⟩
theorem cons_spec_RatOk : ConsOk Try.prog E_spec_RatOk.cons := consOk_cons m_spec_BigIntOk (callable_of Try.func137 (by kernel_rfl)) (consOk_cons m_spec_NatOk (callable_of Try.func138 (by kernel_rfl)) (consOk_cons m_spec_l02Gcd (callable_of Try.func140 (by kernel_rfl)) (consOk_cons m_spec_l04One (callable_of Try.func139 (by kernel_rfl)) (consOk_nil))))
theorem loops_spec_RatOk : loopsIn code_spec_RatOk = [] := by kernel_rfl
theorem m_spec_RatOk : Meets Try.prog 101 c_spec_RatOk := meets_of (E := E_spec_RatOk) (code := code_spec_RatOk) mix layD_ok cons_spec_RatOk Try.func101 (by kernel_rfl) sg_spec_RatOk (by kernel_rfl) (fun y => y.1) c_spec_RatOk.out (fun _ => rfl) c_spec_RatOk.run (fun x => by kernel_rfl) (by kernel_rfl) (loops_mem loops_spec_RatOk (trivial))

noncomputable def sg_spec_MatrixOk : Sig := ⟨[(true, [.d (.int .i64), .d (.int .i64), .d (.sl .rat)])], [], false, [(false, [.d (.bool)])], []⟩
noncomputable def c_spec_MatrixOk : Con := ⟨sg_spec_MatrixOk, Bool, fun x => M_spec_MatrixOk (⟨x.1, x.2.1, x.2.2.1⟩ : Mx), fun r => (r, ())⟩
noncomputable def code_spec_MatrixOk : Code := Try.f73.body.getD .skip
noncomputable def body_spec_MatrixOk_0 : Code := (loopsIn code_spec_MatrixOk).getD 0 .skip
noncomputable def D_spec_MatrixOk_0 : LoopD := ⟨⟨mkSlots [(27, false, [.d (.sl .rat)]), (28, false, [.d (.int .i64)]), (29, false, [.d (.int .i64)])] 37 0, []⟩, [], [(.ret, ⟨mkSlots [(2, false, [.d (.bool)])] 37 0, []⟩, []), (.exit 0, ⟨mkSlots [] 37 0, []⟩, [])]⟩
noncomputable def S_spec_MatrixOk_0_w (x : Tys D_spec_MatrixOk_0.head.ks) : Option (OutT D_spec_MatrixOk_0.outs) := @whileO ((List Rt) × Int × Int × Unit) ((Bool × Unit) ⊕ (Unit)) S_spec_MatrixOk_0 x
noncomputable def E_spec_MatrixOk : Env := ⟨layD, [(69, c_spec_l01In), (101, c_spec_RatOk)], [(4, mkLM D_spec_MatrixOk_0 S_spec_MatrixOk_0_w)], []⟩
theorem cons_spec_MatrixOk : ConsOk Try.prog E_spec_MatrixOk.cons := consOk_cons m_spec_l01In (callable_of Try.func69 (by kernel_rfl)) (consOk_cons m_spec_RatOk (callable_of Try.func101 (by kernel_rfl)) (consOk_nil))
theorem S_spec_MatrixOk_0_ok (x : Tys D_spec_MatrixOk_0.head.ks) : stepL E_spec_MatrixOk D_spec_MatrixOk_0 body_spec_MatrixOk_0 x = S_spec_MatrixOk_0 x := by kernel_rfl
theorem loops_spec_MatrixOk_0 : loopsIn body_spec_MatrixOk_0 = [] := by kernel_rfl
theorem l_spec_MatrixOk_0 : LoopOk Try.prog (mkLM D_spec_MatrixOk_0 S_spec_MatrixOk_0_w) body_spec_MatrixOk_0 := loop_ok2 mix layD_ok cons_spec_MatrixOk (by kernel_rfl) (loops_mem loops_spec_MatrixOk_0 (trivial)) S_spec_MatrixOk_0_ok fun _ _ h => h
theorem loops_spec_MatrixOk : loopsIn code_spec_MatrixOk = [body_spec_MatrixOk_0] := by kernel_rfl
theorem m_spec_MatrixOk : Meets Try.prog 73 c_spec_MatrixOk := meets_of (E := E_spec_MatrixOk) (code := code_spec_MatrixOk) mix layD_ok cons_spec_MatrixOk Try.func73 (by kernel_rfl) sg_spec_MatrixOk (by kernel_rfl) (fun y => y.1) c_spec_MatrixOk.out (fun _ => rfl) c_spec_MatrixOk.run (fun x => by kernel_rfl) (by kernel_rfl) (loops_mem loops_spec_MatrixOk (⟨⟨_, by kernel_rfl, l_spec_MatrixOk_0⟩, trivial⟩))

noncomputable def sg_spec_l06At : Sig := ⟨[(true, [.d (.int .i64), .d (.int .i64), .d (.sl .rat)]), (false, [.d (.int .i64)]), (false, [.d (.int .i64)])], [], false, [(true, [.d (.bool), .d (.sl .int), .d (.sl .int)])], []⟩
noncomputable def c_spec_l06At : Con := ⟨sg_spec_l06At, Rt, fun x => M_spec_l06At (⟨x.1, x.2.1, x.2.2.1⟩ : Mx) x.2.2.2.1 x.2.2.2.2.1, fun r => (r.neg, r.mag, r.den, ())⟩
noncomputable def code_spec_l06At : Code := Try.f75.body.getD .skip
noncomputable def E_spec_l06At : Env := ⟨layD, [], [], []⟩
theorem cons_spec_l06At : ConsOk Try.prog E_spec_l06At.cons := consOk_nil
theorem loops_spec_l06At : loopsIn code_spec_l06At = [] := by kernel_rfl
theorem m_spec_l06At : Meets Try.prog 75 c_spec_l06At := meets_of (E := E_spec_l06At) (code := code_spec_l06At) mix layD_ok cons_spec_l06At Try.func75 (by kernel_rfl) sg_spec_l06At (by kernel_rfl) (fun y => (⟨y.1, y.2.1, y.2.2.1⟩ : Rt)) c_spec_l06At.out (fun _ => rfl) c_spec_l06At.run (fun x => by kernel_rfl) (by kernel_rfl) (loops_mem loops_spec_l06At (trivial))

noncomputable def sg_spec_l04Copy : Sig := ⟨[(true, [.d (.bool), .d (.sl .int), .d (.sl .int)])], [], false, [(true, [.d (.bool), .own 0, .own 1])], [(0, .arr false .int), (1, .arr false .int)]⟩
noncomputable def c_spec_l04Copy : Con := ⟨sg_spec_l04Copy, Rt, fun x => M_spec_l04Copy (⟨x.1, x.2.1, x.2.2.1⟩ : Rt), fun r => (r.neg, r.mag, r.den, ())⟩
noncomputable def code_spec_l04Copy : Code := Try.f74.body.getD .skip
noncomputable def E_spec_l04Copy : Env := ⟨layD, [], [], [(1, [(0, []), (1, []), (2, []), (3, []), (4, []), (5, []), (6, []), (9, []), (10, []), (11, []), (7, [3, 6, 5, 4]), (8, []), (12, [9, 11, 7, 10, 3, 6, 5, 4]), (13, []), (14, [13, 12, 0, 1, 2, 3, 4, 5, 6, 7, 8, 9, 10, 11])])]⟩
theorem cons_spec_l04Copy : ConsOk Try.prog E_spec_l04Copy.cons := consOk_nil
theorem loops_spec_l04Copy : loopsIn code_spec_l04Copy = [] := by kernel_rfl
theorem m_spec_l04Copy : Meets Try.prog 74 c_spec_l04Copy := meets_of (E := E_spec_l04Copy) (code := code_spec_l04Copy) mix layD_ok cons_spec_l04Copy Try.func74 (by kernel_rfl) sg_spec_l04Copy (by kernel_rfl) (fun y => (⟨y.1, y.2.1, y.2.2.1⟩ : Rt)) c_spec_l04Copy.out (fun _ => rfl) c_spec_l04Copy.run (fun x => by kernel_rfl) (by kernel_rfl) (loops_mem loops_spec_l04Copy (trivial))

noncomputable def sg_spec_DiagonalOf : Sig := ⟨[(true, [.d (.int .i64), .d (.int .i64), .d (.sl .rat)])], [], false, [(false, [.dp 0])], [(0, .deep .rat)]⟩
noncomputable def c_spec_DiagonalOf : Con := ⟨sg_spec_DiagonalOf, List Rt, fun x => M_spec_DiagonalOf (⟨x.1, x.2.1, x.2.2.1⟩ : Mx), fun r => (r, ())⟩
noncomputable def code_spec_DiagonalOf : Code := Try.f29.body.getD .skip
noncomputable def body_spec_DiagonalOf_0 : Code := (loopsIn code_spec_DiagonalOf).getD 0 .skip
noncomputable def D_spec_DiagonalOf_0 : LoopD := ⟨⟨mkSlots [(1, false, [.lp 64 0]), (3, false, [.dp 2048]), (4, false, [.d (.int .i64)])] 31 0, [(64, .box [.d (.int .i64), .d (.int .i64), .d (.sl .rat)]), (2048, .deep .rat)]⟩, [(.slotD 3 0, 2048, .rat)], [(.exit 0, ⟨mkSlots [(3, false, [.dp 2048])] 31 0, [(2048, .deep .rat)]⟩, [(.slotD 3 0, 2048, .rat)])]⟩
noncomputable def S_spec_DiagonalOf_0_w (x : Tys D_spec_DiagonalOf_0.head.ks) : Option (OutT D_spec_DiagonalOf_0.outs) := @whileO (Int × Int × Int × (List Rt) × (List Rt) × Unit) ((List Rt) × Unit) S_spec_DiagonalOf_0 x
noncomputable def E_spec_DiagonalOf : Env := ⟨layD, [(73, c_spec_MatrixOk), (75, c_spec_l06At), (74, c_spec_l04Copy)], [(5, mkLM D_spec_DiagonalOf_0 S_spec_DiagonalOf_0_w)], []⟩
theorem cons_spec_DiagonalOf : ConsOk Try.prog E_spec_DiagonalOf.cons := consOk_cons m_spec_MatrixOk (callable_of Try.func73 (by kernel_rfl)) (consOk_cons m_spec_l06At (callable_of Try.func75 (by kernel_rfl)) (consOk_cons m_spec_l04Copy (callable_of Try.func74 (by kernel_rfl)) (consOk_nil)))
theorem S_spec_DiagonalOf_0_ok (x : Tys D_spec_DiagonalOf_0.head.ks) : stepL E_spec_DiagonalOf D_spec_DiagonalOf_0 body_spec_DiagonalOf_0 x = S_spec_DiagonalOf_0 x := by kernel_rfl
theorem loops_spec_DiagonalOf_0 : loopsIn body_spec_DiagonalOf_0 = [] := by kernel_rfl
theorem l_spec_DiagonalOf_0 : LoopOk Try.prog (mkLM D_spec_DiagonalOf_0 S_spec_DiagonalOf_0_w) body_spec_DiagonalOf_0 := loop_ok2 mix layD_ok cons_spec_DiagonalOf (by kernel_rfl) (loops_mem loops_spec_DiagonalOf_0 (trivial)) S_spec_DiagonalOf_0_ok fun _ _ h => h
theorem loops_spec_DiagonalOf : loopsIn code_spec_DiagonalOf = [body_spec_DiagonalOf_0] := by kernel_rfl
theorem m_spec_DiagonalOf : Meets Try.prog 29 c_spec_DiagonalOf := meets_of (E := E_spec_DiagonalOf) (code := code_spec_DiagonalOf) mix layD_ok cons_spec_DiagonalOf Try.func29 (by kernel_rfl) sg_spec_DiagonalOf (by kernel_rfl) (fun y => y.1) c_spec_DiagonalOf.out (fun _ => rfl) c_spec_DiagonalOf.run (fun x => by kernel_rfl) (by kernel_rfl) (loops_mem loops_spec_DiagonalOf (⟨⟨_, by kernel_rfl, l_spec_DiagonalOf_0⟩, trivial⟩))

noncomputable def sg_spec_l02Trim : Sig := ⟨[(false, [.d (.sl .int)])], [], false, [(false, [.d (.sl .int)])], []⟩
noncomputable def c_spec_l02Trim : Con := ⟨sg_spec_l02Trim, List Int, fun x => M_spec_l02Trim x.1, fun r => (r, ())⟩
noncomputable def code_spec_l02Trim : Code := Try.f172.body.getD .skip
noncomputable def body_spec_l02Trim_0 : Code := (loopsIn code_spec_l02Trim).getD 0 .skip
noncomputable def D_spec_l02Trim_0 : LoopD := ⟨⟨mkSlots [(0, false, [.d (.sl .int)]), (3, false, [.d (.int .i64)])] 21 0, []⟩, [], [(.exit 0, ⟨mkSlots [(0, false, [.d (.sl .int)]), (3, false, [.d (.int .i64)])] 21 0, []⟩, [])]⟩
noncomputable def S_spec_l02Trim_0_w (x : Tys D_spec_l02Trim_0.head.ks) : Option (OutT D_spec_l02Trim_0.outs) := @whileO ((List Int) × Int × Unit) ((List Int) × Int × Unit) S_spec_l02Trim_0 x
noncomputable def E_spec_l02Trim : Env := ⟨layD, [], [(2, mkLM D_spec_l02Trim_0 S_spec_l02Trim_0_w)], []⟩
theorem cons_spec_l02Trim : ConsOk Try.prog E_spec_l02Trim.cons := consOk_nil
theorem S_spec_l02Trim_0_ok (x : Tys D_spec_l02Trim_0.head.ks) : stepL E_spec_l02Trim D_spec_l02Trim_0 body_spec_l02Trim_0 x = S_spec_l02Trim_0 x := by kernel_rfl
theorem loops_spec_l02Trim_0 : loopsIn body_spec_l02Trim_0 = [] := by kernel_rfl
theorem l_spec_l02Trim_0 : LoopOk Try.prog (mkLM D_spec_l02Trim_0 S_spec_l02Trim_0_w) body_spec_l02Trim_0 := loop_ok2 mix layD_ok cons_spec_l02Trim (by kernel_rfl) (loops_mem loops_spec_l02Trim_0 (trivial)) S_spec_l02Trim_0_ok fun _ _ h => h
theorem loops_spec_l02Trim : loopsIn code_spec_l02Trim = [body_spec_l02Trim_0] := by kernel_rfl
theorem m_spec_l02Trim : Meets Try.prog 172 c_spec_l02Trim := meets_of (E := E_spec_l02Trim) (code := code_spec_l02Trim) mix layD_ok cons_spec_l02Trim Try.func172 (by kernel_rfl) sg_spec_l02Trim (by kernel_rfl) (fun y => y.1) c_spec_l02Trim.out (fun _ => rfl) c_spec_l02Trim.run (fun x => by kernel_rfl) (by kernel_rfl) (loops_mem loops_spec_l02Trim (⟨⟨_, by kernel_rfl, l_spec_l02Trim_0⟩, trivial⟩))

noncomputable def sg_spec_l02Cap : Sig := ⟨[(false, [.d (.sl .int)])], [], false, [(false, [.d (.sl .int)])], []⟩
noncomputable def c_spec_l02Cap : Con := ⟨sg_spec_l02Cap, List Int, fun x => M_spec_l02Cap x.1, fun r => (r, ())⟩
noncomputable def code_spec_l02Cap : Code := Try.f173.body.getD .skip
noncomputable def E_spec_l02Cap : Env := ⟨layD, [(172, c_spec_l02Trim)], [], []⟩
theorem cons_spec_l02Cap : ConsOk Try.prog E_spec_l02Cap.cons := consOk_cons m_spec_l02Trim (callable_of Try.func172 (by kernel_rfl)) (consOk_nil)
theorem loops_spec_l02Cap : loopsIn code_spec_l02Cap = [] := by kernel_rfl
theorem m_spec_l02Cap : Meets Try.prog 173 c_spec_l02Cap := meets_of (E := E_spec_l02Cap) (code := code_spec_l02Cap) mix layD_ok cons_spec_l02Cap Try.func173 (by kernel_rfl) sg_spec_l02Cap (by kernel_rfl) (fun y => y.1) c_spec_l02Cap.out (fun _ => rfl) c_spec_l02Cap.run (fun x => by kernel_rfl) (by kernel_rfl) (loops_mem loops_spec_l02Cap (trivial))

noncomputable def sg_spec_l03Make : Sig := ⟨[(false, [.d (.bool)]), (false, [.d (.sl .int)])], [], false, [(true, [.d (.bool), .own 0])], [(0, .arr false .int)]⟩
noncomputable def c_spec_l03Make : Con := ⟨sg_spec_l03Make, Bg, fun x => M_spec_l03Make x.1 x.2.1, fun r => (r.neg, r.mag, ())⟩
noncomputable def code_spec_l03Make : Code := Try.f143.body.getD .skip
noncomputable def E_spec_l03Make : Env := ⟨layD, [(173, c_spec_l02Cap)], [], []⟩
theorem cons_spec_l03Make : ConsOk Try.prog E_spec_l03Make.cons := consOk_cons m_spec_l02Cap (callable_of Try.func173 (by kernel_rfl)) (consOk_nil)
theorem loops_spec_l03Make : loopsIn code_spec_l03Make = [] := by kernel_rfl
theorem m_spec_l03Make : Meets Try.prog 143 c_spec_l03Make := meets_of (E := E_spec_l03Make) (code := code_spec_l03Make) mix layD_ok cons_spec_l03Make Try.func143 (by kernel_rfl) sg_spec_l03Make (by kernel_rfl) (fun y => (⟨y.1, y.2.1⟩ : Bg)) c_spec_l03Make.out (fun _ => rfl) c_spec_l03Make.run (fun x => by kernel_rfl) (by kernel_rfl) (loops_mem loops_spec_l03Make (trivial))

noncomputable def sg_spec_BigIntOf : Sig := ⟨[(false, [.d (.int .i64)])], [], false, [(true, [.d (.bool), .own 0])], [(0, .arr false .int)]⟩
noncomputable def c_spec_BigIntOf : Con := ⟨sg_spec_BigIntOf, Bg, fun x => M_spec_BigIntOf x.1, fun r => (r.neg, r.mag, ())⟩
noncomputable def code_spec_BigIntOf : Code := Try.f118.body.getD .skip
noncomputable def E_spec_BigIntOf : Env := ⟨layD, [(143, c_spec_l03Make), (153, c_spec_NatOf)], [], []⟩
theorem cons_spec_BigIntOf : ConsOk Try.prog E_spec_BigIntOf.cons := consOk_cons m_spec_l03Make (callable_of Try.func143 (by kernel_rfl)) (consOk_cons m_spec_NatOf (callable_of Try.func153 (by kernel_rfl)) (consOk_nil))
theorem loops_spec_BigIntOf : loopsIn code_spec_BigIntOf = [] := by kernel_rfl
theorem m_spec_BigIntOf : Meets Try.prog 118 c_spec_BigIntOf := meets_of (E := E_spec_BigIntOf) (code := code_spec_BigIntOf) mix layD_ok cons_spec_BigIntOf Try.func118 (by kernel_rfl) sg_spec_BigIntOf (by kernel_rfl) (fun y => (⟨y.1, y.2.1⟩ : Bg)) c_spec_BigIntOf.out (fun _ => rfl) c_spec_BigIntOf.run (fun x => by kernel_rfl) (by kernel_rfl) (loops_mem loops_spec_BigIntOf (trivial))

noncomputable def sg_spec_RatFromInt : Sig := ⟨[(false, [.d (.int .i64)])], [], false, [(true, [.d (.bool), .own 0, .own 1])], [(0, .arr false .int), (1, .arr false .int)]⟩
noncomputable def c_spec_RatFromInt : Con := ⟨sg_spec_RatFromInt, Rt, fun x => M_spec_RatFromInt x.1, fun r => (r.neg, r.mag, r.den, ())⟩
noncomputable def code_spec_RatFromInt : Code := Try.f70.body.getD .skip
noncomputable def E_spec_RatFromInt : Env := ⟨layD, [(118, c_spec_BigIntOf)], [], []⟩
theorem cons_spec_RatFromInt : ConsOk Try.prog E_spec_RatFromInt.cons := consOk_cons m_spec_BigIntOf (callable_of Try.func118 (by kernel_rfl)) (consOk_nil)
theorem loops_spec_RatFromInt : loopsIn code_spec_RatFromInt = [] := by kernel_rfl
theorem m_spec_RatFromInt : Meets Try.prog 70 c_spec_RatFromInt := meets_of (E := E_spec_RatFromInt) (code := code_spec_RatFromInt) mix layD_ok cons_spec_RatFromInt Try.func70 (by kernel_rfl) sg_spec_RatFromInt (by kernel_rfl) (fun y => (⟨y.1, y.2.1, y.2.2.1⟩ : Rt)) c_spec_RatFromInt.out (fun _ => rfl) c_spec_RatFromInt.run (fun x => by kernel_rfl) (by kernel_rfl) (loops_mem loops_spec_RatFromInt (trivial))

noncomputable def sg_spec_l05Zero : Sig := ⟨[], [], false, [(true, [.d (.bool), .own 0, .own 1])], [(0, .arr false .int), (1, .arr false .int)]⟩
noncomputable def c_spec_l05Zero : Con := ⟨sg_spec_l05Zero, Rt, fun x => M_spec_l05Zero, fun r => (r.neg, r.mag, r.den, ())⟩
noncomputable def code_spec_l05Zero : Code := Try.f122.body.getD .skip
noncomputable def E_spec_l05Zero : Env := ⟨layD, [(70, c_spec_RatFromInt)], [], []⟩
theorem cons_spec_l05Zero : ConsOk Try.prog E_spec_l05Zero.cons := consOk_cons m_spec_RatFromInt (callable_of Try.func70 (by kernel_rfl)) (consOk_nil)
theorem loops_spec_l05Zero : loopsIn code_spec_l05Zero = [] := by kernel_rfl
theorem m_spec_l05Zero : Meets Try.prog 122 c_spec_l05Zero := meets_of (E := E_spec_l05Zero) (code := code_spec_l05Zero) mix layD_ok cons_spec_l05Zero Try.func122 (by kernel_rfl) sg_spec_l05Zero (by kernel_rfl) (fun y => (⟨y.1, y.2.1, y.2.2.1⟩ : Rt)) c_spec_l05Zero.out (fun _ => rfl) c_spec_l05Zero.run (fun x => by kernel_rfl) (by kernel_rfl) (loops_mem loops_spec_l05Zero (trivial))

noncomputable def sg_spec_l02Add : Sig := ⟨[(false, [.d (.sl .int)]), (false, [.d (.sl .int)])], [], false, [(false, [.own 0])], [(0, .arr false .int)]⟩
noncomputable def c_spec_l02Add : Con := ⟨sg_spec_l02Add, List Int, fun x => M_spec_l02Add x.1 x.2.1, fun r => (r, ())⟩
noncomputable def code_spec_l02Add : Code := Try.f169.body.getD .skip
noncomputable def body_spec_l02Add_0 : Code := (loopsIn code_spec_l02Add).getD 0 .skip
noncomputable def D_spec_l02Add_0 : LoopD := ⟨⟨mkSlots [(0, false, [.d (.sl .int)]), (1, false, [.d (.sl .int)]), (5, false, [.own 3584]), (6, false, [.d (.int .i64)]), (7, false, [.d (.int .i64)])] 55 0, [(3584, .arr false .int)]⟩, [(.slot 5 0, 3584, .int)], [(.exit 0, ⟨mkSlots [(5, false, [.own 3584])] 55 0, [(3584, .arr false .int)]⟩, [(.slot 5 0, 3584, .int)])]⟩
noncomputable def S_spec_l02Add_0_w (x : Tys D_spec_l02Add_0.head.ks) : Option (OutT D_spec_l02Add_0.outs) := @whileO ((List Int) × (List Int) × Int × Int × (List Int) × Unit) ((List Int) × Unit) S_spec_l02Add_0 x
noncomputable def E_spec_l02Add : Env := ⟨layD, [], [(4, mkLM D_spec_l02Add_0 S_spec_l02Add_0_w)], []⟩
theorem cons_spec_l02Add : ConsOk Try.prog E_spec_l02Add.cons := consOk_nil
theorem S_spec_l02Add_0_ok (x : Tys D_spec_l02Add_0.head.ks) : stepL E_spec_l02Add D_spec_l02Add_0 body_spec_l02Add_0 x = S_spec_l02Add_0 x := by kernel_rfl
theorem loops_spec_l02Add_0 : loopsIn body_spec_l02Add_0 = [] := by kernel_rfl
theorem l_spec_l02Add_0 : LoopOk Try.prog (mkLM D_spec_l02Add_0 S_spec_l02Add_0_w) body_spec_l02Add_0 := loop_ok2 mix layD_ok cons_spec_l02Add (by kernel_rfl) (loops_mem loops_spec_l02Add_0 (trivial)) S_spec_l02Add_0_ok fun _ _ h => h
theorem loops_spec_l02Add : loopsIn code_spec_l02Add = [body_spec_l02Add_0] := by kernel_rfl
theorem m_spec_l02Add : Meets Try.prog 169 c_spec_l02Add := meets_of (E := E_spec_l02Add) (code := code_spec_l02Add) mix layD_ok cons_spec_l02Add Try.func169 (by kernel_rfl) sg_spec_l02Add (by kernel_rfl) (fun y => y.1) c_spec_l02Add.out (fun _ => rfl) c_spec_l02Add.run (fun x => by kernel_rfl) (by kernel_rfl) (loops_mem loops_spec_l02Add (⟨⟨_, by kernel_rfl, l_spec_l02Add_0⟩, trivial⟩))

noncomputable def sg_spec_l03Add : Sig := ⟨[(true, [.d (.bool), .d (.sl .int)]), (true, [.d (.bool), .d (.sl .int)])], [], false, [(true, [.d (.bool), .own 0])], [(0, .arr false .int)]⟩
noncomputable def c_spec_l03Add : Con := ⟨sg_spec_l03Add, Bg, fun x => M_spec_l03Add (⟨x.1, x.2.1⟩ : Bg) (⟨x.2.2.1, x.2.2.2.1⟩ : Bg), fun r => (r.neg, r.mag, ())⟩
noncomputable def code_spec_l03Add : Code := Try.f141.body.getD .skip
noncomputable def E_spec_l03Add : Env := ⟨layD, [(169, c_spec_l02Add), (143, c_spec_l03Make), (170, c_spec_l02Cmp), (171, c_spec_l02Sub)], [], [(2, [(0, []), (1, []), (2, []), (3, []), (4, []), (5, []), (6, [3, 5, 2, 4]), (7, [1, 6, 0, 3, 5, 2, 4]), (8, [7, 0, 1, 2, 3, 4, 5, 6])]), (4, [(0, []), (1, []), (2, []), (3, []), (4, []), (5, []), (6, [3, 5, 2, 4]), (7, [1, 6, 0, 3, 5, 2, 4]), (8, [7, 0, 1, 2, 3, 4, 5, 6])]), (5, [(0, []), (1, []), (2, []), (3, []), (4, []), (5, []), (6, [3, 5, 2, 4]), (7, [1, 6, 0, 3, 5, 2, 4]), (8, [7, 0, 1, 2, 3, 4, 5, 6])])]⟩
theorem cons_spec_l03Add : ConsOk Try.prog E_spec_l03Add.cons := consOk_cons m_spec_l02Add (callable_of Try.func169 (by kernel_rfl)) (consOk_cons m_spec_l03Make (callable_of Try.func143 (by kernel_rfl)) (consOk_cons m_spec_l02Cmp (callable_of Try.func170 (by kernel_rfl)) (consOk_cons m_spec_l02Sub (callable_of Try.func171 (by kernel_rfl)) (consOk_nil))))
theorem loops_spec_l03Add : loopsIn code_spec_l03Add = [] := by kernel_rfl
theorem m_spec_l03Add : Meets Try.prog 141 c_spec_l03Add := meets_of (E := E_spec_l03Add) (code := code_spec_l03Add) mix layD_ok cons_spec_l03Add Try.func141 (by kernel_rfl) sg_spec_l03Add (by kernel_rfl) (fun y => (⟨y.1, y.2.1⟩ : Bg)) c_spec_l03Add.out (fun _ => rfl) c_spec_l03Add.run (fun x => by kernel_rfl) (by kernel_rfl) (loops_mem loops_spec_l03Add (trivial))

noncomputable def sg_spec_l04Low : Sig := ⟨[(false, [.d (.bool)]), (false, [.d (.sl .int)]), (false, [.d (.sl .int)])], [], false, [(true, [.d (.bool), .own 0, .own 1])], [(0, .arr false .int), (1, .arr false .int)]⟩
noncomputable def c_spec_l04Low : Con := ⟨sg_spec_l04Low, Rt, fun x => M_spec_l04Low x.1 x.2.1 x.2.2.1, fun r => (r.neg, r.mag, r.den, ())⟩
noncomputable def code_spec_l04Low : Code := Try.f142.body.getD .skip
noncomputable def E_spec_l04Low : Env := ⟨layD, [(172, c_spec_l02Trim), (139, c_spec_l04One), (140, c_spec_l02Gcd), (168, c_spec_l02Div), (143, c_spec_l03Make)], [], []⟩
theorem cons_spec_l04Low : ConsOk Try.prog E_spec_l04Low.cons := consOk_cons m_spec_l02Trim (callable_of Try.func172 (by kernel_rfl)) (consOk_cons m_spec_l04One (callable_of Try.func139 (by kernel_rfl)) (consOk_cons m_spec_l02Gcd (callable_of Try.func140 (by kernel_rfl)) (consOk_cons m_spec_l02Div (callable_of Try.func168 (by kernel_rfl)) (consOk_cons m_spec_l03Make (callable_of Try.func143 (by kernel_rfl)) (consOk_nil)))))
theorem loops_spec_l04Low : loopsIn code_spec_l04Low = [] := by kernel_rfl
theorem m_spec_l04Low : Meets Try.prog 142 c_spec_l04Low := meets_of (E := E_spec_l04Low) (code := code_spec_l04Low) mix layD_ok cons_spec_l04Low Try.func142 (by kernel_rfl) sg_spec_l04Low (by kernel_rfl) (fun y => (⟨y.1, y.2.1, y.2.2.1⟩ : Rt)) c_spec_l04Low.out (fun _ => rfl) c_spec_l04Low.run (fun x => by kernel_rfl) (by kernel_rfl) (loops_mem loops_spec_l04Low (trivial))

noncomputable def sg_spec_l04Add : Sig := ⟨[(true, [.d (.bool), .d (.sl .int), .d (.sl .int)]), (true, [.d (.bool), .d (.sl .int), .d (.sl .int)])], [], false, [(true, [.d (.bool), .own 0, .own 1])], [(0, .arr false .int), (1, .arr false .int)]⟩
noncomputable def c_spec_l04Add : Con := ⟨sg_spec_l04Add, Rt, fun x => M_spec_l04Add (⟨x.1, x.2.1, x.2.2.1⟩ : Rt) (⟨x.2.2.2.1, x.2.2.2.2.1, x.2.2.2.2.2.1⟩ : Rt), fun r => (r.neg, r.mag, r.den, ())⟩
noncomputable def code_spec_l04Add : Code := Try.f103.body.getD .skip
noncomputable def E_spec_l04Add : Env := ⟨layD, [(139, c_spec_l04One), (141, c_spec_l03Add), (142, c_spec_l04Low), (144, c_spec_l02Mul), (143, c_spec_l03Make)], [], [(4, [(0, []), (1, []), (2, []), (3, []), (4, []), (5, []), (6, []), (7, []), (8, [5, 7, 4, 6, 3]), (9, [2, 8, 1, 5, 7, 0, 4, 6, 3]), (10, []), (11, [10, 9, 0, 1, 2, 3, 4, 5, 6, 7, 8])]), (5, [(0, []), (1, []), (2, []), (3, []), (4, []), (5, []), (6, []), (7, []), (8, [5, 7, 4, 6, 3]), (9, [2, 8, 1, 5, 7, 0, 4, 6, 3]), (10, []), (11, [10, 9, 0, 1, 2, 3, 4, 5, 6, 7, 8])]), (7, [(0, []), (1, []), (2, []), (3, []), (4, []), (5, []), (6, []), (7, []), (8, [5, 7, 4, 6]), (9, [1, 3, 8, 0, 2, 5, 7, 4, 6]), (10, [9, 0, 1, 2, 3, 4, 5, 6, 7, 8])])]⟩
theorem cons_spec_l04Add : ConsOk Try.prog E_spec_l04Add.cons := consOk_cons m_spec_l04One (callable_of Try.func139 (by kernel_rfl)) (consOk_cons m_spec_l03Add (callable_of Try.func141 (by kernel_rfl)) (consOk_cons m_spec_l04Low (callable_of Try.func142 (by kernel_rfl)) (consOk_cons m_spec_l02Mul (callable_of Try.func144 (by kernel_rfl)) (consOk_cons m_spec_l03Make (callable_of Try.func143 (by kernel_rfl)) (consOk_nil)))))
theorem loops_spec_l04Add : loopsIn code_spec_l04Add = [] := by kernel_rfl
theorem m_spec_l04Add : Meets Try.prog 103 c_spec_l04Add := meets_of (E := E_spec_l04Add) (code := code_spec_l04Add) mix layD_ok cons_spec_l04Add Try.func103 (by kernel_rfl) sg_spec_l04Add (by kernel_rfl) (fun y => (⟨y.1, y.2.1, y.2.2.1⟩ : Rt)) c_spec_l04Add.out (fun _ => rfl) c_spec_l04Add.run (fun x => by kernel_rfl) (by kernel_rfl) (loops_mem loops_spec_l04Add (trivial))

noncomputable def sg_spec_l08Sum : Sig := ⟨[(false, [.d (.sl .rat)])], [], false, [(true, [.d (.bool), .own 0, .own 1])], [(0, .arr false .int), (1, .arr false .int)]⟩
noncomputable def c_spec_l08Sum : Con := ⟨sg_spec_l08Sum, Rt, fun x => M_spec_l08Sum x.1, fun r => (r.neg, r.mag, r.den, ())⟩
noncomputable def code_spec_l08Sum : Code := Try.f86.body.getD .skip
noncomputable def body_spec_l08Sum_0 : Code := (loopsIn code_spec_l08Sum).getD 0 .skip
noncomputable def D_spec_l08Sum_0 : LoopD := ⟨⟨mkSlots [(2, false, [.lp 128 0]), (3, false, [.lp 192 0]), (7, false, [.d (.sl .rat)]), (8, false, [.d (.int .i64)]), (9, false, [.d (.int .i64)])] 18 0, [(128, .box [.d (.bool), .d (.sl .int), .d (.sl .int)]), (192, .box [.d (.bool), .own 1216, .own 1280]), (1216, .arr false .int), (1280, .arr false .int)]⟩, [], [(.exit 0, ⟨mkSlots [(2, false, [.lp 128 0]), (3, false, [.lp 192 0])] 18 0, [(128, .box [.d (.bool), .d (.sl .int), .d (.sl .int)]), (192, .box [.d (.bool), .own 1216, .own 1280]), (1216, .arr false .int), (1280, .arr false .int)]⟩, [])]⟩
noncomputable def S_spec_l08Sum_0_w (x : Tys D_spec_l08Sum_0.head.ks) : Option (OutT D_spec_l08Sum_0.outs) := @whileO ((List Rt) × Int × Int × Bool × (List Int) × (List Int) × Bool × (List Int) × (List Int) × Unit) (Bool × (List Int) × (List Int) × Bool × (List Int) × (List Int) × Unit) S_spec_l08Sum_0 x
noncomputable def E_spec_l08Sum : Env := ⟨layD, [(122, c_spec_l05Zero), (103, c_spec_l04Add)], [(3, mkLM D_spec_l08Sum_0 S_spec_l08Sum_0_w)], []⟩
theorem cons_spec_l08Sum : ConsOk Try.prog E_spec_l08Sum.cons := consOk_cons m_spec_l05Zero (callable_of Try.func122 (by kernel_rfl)) (consOk_cons m_spec_l04Add (callable_of Try.func103 (by kernel_rfl)) (consOk_nil))
theorem S_spec_l08Sum_0_ok (x : Tys D_spec_l08Sum_0.head.ks) : stepL E_spec_l08Sum D_spec_l08Sum_0 body_spec_l08Sum_0 x = S_spec_l08Sum_0 x := by kernel_rfl
theorem loops_spec_l08Sum_0 : loopsIn body_spec_l08Sum_0 = [] := by kernel_rfl
theorem l_spec_l08Sum_0 : LoopOk Try.prog (mkLM D_spec_l08Sum_0 S_spec_l08Sum_0_w) body_spec_l08Sum_0 := loop_ok2 mix layD_ok cons_spec_l08Sum (by kernel_rfl) (loops_mem loops_spec_l08Sum_0 (trivial)) S_spec_l08Sum_0_ok fun _ _ h => h
theorem loops_spec_l08Sum : loopsIn code_spec_l08Sum = [body_spec_l08Sum_0] := by kernel_rfl
theorem m_spec_l08Sum : Meets Try.prog 86 c_spec_l08Sum := meets_of (E := E_spec_l08Sum) (code := code_spec_l08Sum) mix layD_ok cons_spec_l08Sum Try.func86 (by kernel_rfl) sg_spec_l08Sum (by kernel_rfl) (fun y => (⟨y.1, y.2.1, y.2.2.1⟩ : Rt)) c_spec_l08Sum.out (fun _ => rfl) c_spec_l08Sum.run (fun x => by kernel_rfl) (by kernel_rfl) (loops_mem loops_spec_l08Sum (⟨⟨_, by kernel_rfl, l_spec_l08Sum_0⟩, trivial⟩))

noncomputable def sg_spec_l05Bad : Sig := ⟨[(true, [.d (.bool), .d (.sl .int), .d (.sl .int)])], [], false, [(false, [.d (.bool)])], []⟩
noncomputable def c_spec_l05Bad : Con := ⟨sg_spec_l05Bad, Bool, fun x => M_spec_l05Bad (⟨x.1, x.2.1, x.2.2.1⟩ : Rt), fun r => (r, ())⟩
noncomputable def code_spec_l05Bad : Code := Try.f87.body.getD .skip
noncomputable def E_spec_l05Bad : Env := ⟨layD, [], [], []⟩
theorem cons_spec_l05Bad : ConsOk Try.prog E_spec_l05Bad.cons := consOk_nil
theorem loops_spec_l05Bad : loopsIn code_spec_l05Bad = [] := by kernel_rfl
theorem m_spec_l05Bad : Meets Try.prog 87 c_spec_l05Bad := meets_of (E := E_spec_l05Bad) (code := code_spec_l05Bad) mix layD_ok cons_spec_l05Bad Try.func87 (by kernel_rfl) sg_spec_l05Bad (by kernel_rfl) (fun y => y.1) c_spec_l05Bad.out (fun _ => rfl) c_spec_l05Bad.run (fun x => by kernel_rfl) (by kernel_rfl) (loops_mem loops_spec_l05Bad (trivial))

noncomputable def sg_spec_TraceOf : Sig := ⟨[(true, [.d (.int .i64), .d (.int .i64), .d (.sl .rat)])], [], true, [(true, [.d (.bool), .own 0, .own 1]), (false, [.d (.bool)])], [(0, .arr false .int), (1, .arr false .int)]⟩
noncomputable def c_spec_TraceOf : Con := ⟨sg_spec_TraceOf, Rt × Bool, fun x => M_spec_TraceOf (⟨x.1, x.2.1, x.2.2.1⟩ : Mx), fun r => (r.1.neg, r.2, r.1.mag, r.1.den, ())⟩
noncomputable def code_spec_TraceOf : Code := Try.f42.body.getD .skip
noncomputable def E_spec_TraceOf : Env := ⟨layD, [(73, c_spec_MatrixOk), (29, c_spec_DiagonalOf), (86, c_spec_l08Sum), (87, c_spec_l05Bad)], [], [(4, [(0, []), (1, []), (2, [1]), (3, []), (4, [0, 2, 1]), (5, [3, 4, 0, 1, 2])])]⟩
theorem cons_spec_TraceOf : ConsOk Try.prog E_spec_TraceOf.cons := consOk_cons m_spec_MatrixOk (callable_of Try.func73 (by kernel_rfl)) (consOk_cons m_spec_DiagonalOf (callable_of Try.func29 (by kernel_rfl)) (consOk_cons m_spec_l08Sum (callable_of Try.func86 (by kernel_rfl)) (consOk_cons m_spec_l05Bad (callable_of Try.func87 (by kernel_rfl)) (consOk_nil))))
theorem loops_spec_TraceOf : loopsIn code_spec_TraceOf = [] := by kernel_rfl
theorem m_spec_TraceOf : Meets Try.prog 42 c_spec_TraceOf := meets_of (E := E_spec_TraceOf) (code := code_spec_TraceOf) mix layD_ok cons_spec_TraceOf Try.func42 (by kernel_rfl) sg_spec_TraceOf (by kernel_rfl) (fun y => ((⟨y.1, y.2.2.1, y.2.2.2.1⟩ : Rt), y.2.1)) c_spec_TraceOf.out (fun _ => rfl) c_spec_TraceOf.run (fun x => by kernel_rfl) (by kernel_rfl) (loops_mem loops_spec_TraceOf (trivial))

noncomputable def sg_impl_isLength : Sig := ⟨[(false, [.d (.int .i64)])], [], false, [(false, [.d (.bool)])], []⟩
noncomputable def c_impl_isLength : Con := ⟨sg_impl_isLength, Bool, fun x => M_impl_isLength x.1, fun r => (r, ())⟩
noncomputable def code_impl_isLength : Code := Try.f71.body.getD .skip
noncomputable def E_impl_isLength : Env := ⟨layD, [], [], []⟩
theorem cons_impl_isLength : ConsOk Try.prog E_impl_isLength.cons := consOk_nil
theorem loops_impl_isLength : loopsIn code_impl_isLength = [] := by kernel_rfl
theorem m_impl_isLength : Meets Try.prog 71 c_impl_isLength := meets_of (E := E_impl_isLength) (code := code_impl_isLength) mix layD_ok cons_impl_isLength Try.func71 (by kernel_rfl) sg_impl_isLength (by kernel_rfl) (fun y => y.1) c_impl_isLength.out (fun _ => rfl) c_impl_isLength.run (fun x => by kernel_rfl) (by kernel_rfl) (loops_mem loops_impl_isLength (trivial))

noncomputable def sg_impl_NatOk : Sig := ⟨[(false, [.d (.sl .int)])], [], false, [(false, [.d (.bool)])], []⟩
noncomputable def c_impl_NatOk : Con := ⟨sg_impl_NatOk, Bool, fun x => M_impl_NatOk x.1, fun r => (r, ())⟩
noncomputable def code_impl_NatOk : Code := Try.f156.body.getD .skip
noncomputable def body_impl_NatOk_0 : Code := (loopsIn code_impl_NatOk).getD 0 .skip
noncomputable def D_impl_NatOk_0 : LoopD := ⟨⟨mkSlots [(22, false, [.d (.sl .int)]), (23, false, [.d (.int .i64)]), (24, false, [.d (.int .i64)])] 35 0, []⟩, [], [(.ret, ⟨mkSlots [(2, false, [.d (.bool)])] 35 0, []⟩, []), (.exit 0, ⟨mkSlots [] 35 0, []⟩, [])]⟩
noncomputable def S_impl_NatOk_0_w (x : Tys D_impl_NatOk_0.head.ks) : Option (OutT D_impl_NatOk_0.outs) := @whileO ((List Int) × Int × Int × Unit) ((Bool × Unit) ⊕ (Unit)) S_impl_NatOk_0 x
noncomputable def E_impl_NatOk : Env := ⟨layD, [], [(4, mkLM D_impl_NatOk_0 S_impl_NatOk_0_w)], []⟩
theorem cons_impl_NatOk : ConsOk Try.prog E_impl_NatOk.cons := consOk_nil
theorem S_impl_NatOk_0_ok (x : Tys D_impl_NatOk_0.head.ks) : stepL E_impl_NatOk D_impl_NatOk_0 body_impl_NatOk_0 x = S_impl_NatOk_0 x := by kernel_rfl
theorem loops_impl_NatOk_0 : loopsIn body_impl_NatOk_0 = [] := by kernel_rfl
theorem l_impl_NatOk_0 : LoopOk Try.prog (mkLM D_impl_NatOk_0 S_impl_NatOk_0_w) body_impl_NatOk_0 := loop_ok2 mix layD_ok cons_impl_NatOk (by kernel_rfl) (loops_mem loops_impl_NatOk_0 (trivial)) S_impl_NatOk_0_ok fun _ _ h => h
theorem loops_impl_NatOk : loopsIn code_impl_NatOk = [body_impl_NatOk_0] := by kernel_rfl
theorem m_impl_NatOk : Meets Try.prog 156 c_impl_NatOk := meets_of (E := E_impl_NatOk) (code := code_impl_NatOk) mix layD_ok cons_impl_NatOk Try.func156 (by kernel_rfl) sg_impl_NatOk (by kernel_rfl) (fun y => y.1) c_impl_NatOk.out (fun _ => rfl) c_impl_NatOk.run (fun x => by kernel_rfl) (by kernel_rfl) (loops_mem loops_impl_NatOk (⟨⟨_, by kernel_rfl, l_impl_NatOk_0⟩, trivial⟩))

noncomputable def sg_impl_BigIntOk : Sig := ⟨[(true, [.d (.bool), .d (.sl .int)])], [], false, [(false, [.d (.bool)])], []⟩
noncomputable def c_impl_BigIntOk : Con := ⟨sg_impl_BigIntOk, Bool, fun x => M_impl_BigIntOk (⟨x.1, x.2.1⟩ : Bg), fun r => (r, ())⟩
noncomputable def code_impl_BigIntOk : Code := Try.f155.body.getD .skip
noncomputable def E_impl_BigIntOk : Env := ⟨layD, [(156, c_impl_NatOk)], [], []⟩
theorem cons_impl_BigIntOk : ConsOk Try.prog E_impl_BigIntOk.cons := consOk_cons m_impl_NatOk (callable_of Try.func156 (by kernel_rfl)) (consOk_nil)
theorem loops_impl_BigIntOk : loopsIn code_impl_BigIntOk = [] := by kernel_rfl
theorem m_impl_BigIntOk : Meets Try.prog 155 c_impl_BigIntOk := meets_of (E := E_impl_BigIntOk) (code := code_impl_BigIntOk) mix layD_ok cons_impl_BigIntOk Try.func155 (by kernel_rfl) sg_impl_BigIntOk (by kernel_rfl) (fun y => y.1) c_impl_BigIntOk.out (fun _ => rfl) c_impl_BigIntOk.run (fun x => by kernel_rfl) (by kernel_rfl) (loops_mem loops_impl_BigIntOk (trivial))

noncomputable def sg_impl_natCmp : Sig := ⟨[(false, [.d (.sl .int)]), (false, [.d (.sl .int)])], [], false, [(false, [.d (.int .i64)])], []⟩
noncomputable def c_impl_natCmp : Con := ⟨sg_impl_natCmp, Int, fun x => M_impl_natCmp x.1 x.2.1, fun r => (r, ())⟩
noncomputable def code_impl_natCmp : Code := Try.f162.body.getD .skip
noncomputable def body_impl_natCmp_0 : Code := (loopsIn code_impl_natCmp).getD 0 .skip
noncomputable def D_impl_natCmp_0 : LoopD := ⟨⟨mkSlots [(0, false, [.d (.sl .int)]), (1, false, [.d (.sl .int)]), (5, false, [.d (.int .i64)])] 43 0, []⟩, [], [(.ret, ⟨mkSlots [(4, false, [.d (.int .i64)])] 43 0, []⟩, []), (.exit 0, ⟨mkSlots [] 43 0, []⟩, [])]⟩
noncomputable def S_impl_natCmp_0_w (x : Tys D_impl_natCmp_0.head.ks) : Option (OutT D_impl_natCmp_0.outs) := @whileO ((List Int) × (List Int) × Int × Unit) ((Int × Unit) ⊕ (Unit)) S_impl_natCmp_0 x
noncomputable def E_impl_natCmp : Env := ⟨layD, [], [(6, mkLM D_impl_natCmp_0 S_impl_natCmp_0_w)], [(8, [(0, []), (1, []), (2, []), (3, []), (4, []), (5, []), (6, []), (7, []), (8, []), (9, [8, 3, 7, 2, 6, 0, 1, 4, 5])]), (10, [(0, []), (1, []), (2, []), (3, []), (4, []), (5, []), (6, []), (7, []), (8, []), (9, [8, 3, 7, 2, 6, 0, 1, 4, 5])])]⟩
theorem cons_impl_natCmp : ConsOk Try.prog E_impl_natCmp.cons := consOk_nil
theorem S_impl_natCmp_0_ok (x : Tys D_impl_natCmp_0.head.ks) : stepL E_impl_natCmp D_impl_natCmp_0 body_impl_natCmp_0 x = S_impl_natCmp_0 x := by kernel_rfl
theorem loops_impl_natCmp_0 : loopsIn body_impl_natCmp_0 = [] := by kernel_rfl
theorem l_impl_natCmp_0 : LoopOk Try.prog (mkLM D_impl_natCmp_0 S_impl_natCmp_0_w) body_impl_natCmp_0 := loop_ok2 mix layD_ok cons_impl_natCmp (by kernel_rfl) (loops_mem loops_impl_natCmp_0 (trivial)) S_impl_natCmp_0_ok fun _ _ h => h
theorem loops_impl_natCmp : loopsIn code_impl_natCmp = [body_impl_natCmp_0] := by kernel_rfl
theorem m_impl_natCmp : Meets Try.prog 162 c_impl_natCmp := meets_of (E := E_impl_natCmp) (code := code_impl_natCmp) mix layD_ok cons_impl_natCmp Try.func162 (by kernel_rfl) sg_impl_natCmp (by kernel_rfl) (fun y => y.1) c_impl_natCmp.out (fun _ => rfl) c_impl_natCmp.run (fun x => by kernel_rfl) (by kernel_rfl) (loops_mem loops_impl_natCmp (⟨⟨_, by kernel_rfl, l_impl_natCmp_0⟩, trivial⟩))

noncomputable def sg_impl_copyInts : Sig := ⟨[(false, [.d (.sl .int)])], [], false, [(false, [.own 0])], [(0, .arr false .int)]⟩
noncomputable def c_impl_copyInts : Con := ⟨sg_impl_copyInts, List Int, fun x => M_impl_copyInts x.1, fun r => (r, ())⟩
noncomputable def code_impl_copyInts : Code := Try.f121.body.getD .skip
noncomputable def E_impl_copyInts : Env := ⟨layD, [], [], []⟩
theorem cons_impl_copyInts : ConsOk Try.prog E_impl_copyInts.cons := consOk_nil
theorem loops_impl_copyInts : loopsIn code_impl_copyInts = [] := by kernel_rfl
theorem m_impl_copyInts : Meets Try.prog 121 c_impl_copyInts := meets_of (E := E_impl_copyInts) (code := code_impl_copyInts) mix layD_ok cons_impl_copyInts Try.func121 (by kernel_rfl) sg_impl_copyInts (by kernel_rfl) (fun y => y.1) c_impl_copyInts.out (fun _ => rfl) c_impl_copyInts.run (fun x => by kernel_rfl) (by kernel_rfl) (loops_mem loops_impl_copyInts (trivial))

noncomputable def sg_impl_trim_c : Sig := ⟨[(false, [.own 0])], [(0, .arr false .int)], false, [(false, [.own 0])], [(0, .arr false .int)]⟩
noncomputable def c_impl_trim_c : Con := ⟨sg_impl_trim_c, List Int, fun x => M_impl_trim_c x.1, fun r => (r, ())⟩
noncomputable def code_impl_trim_c : Code := Try.f164.body.getD .skip
noncomputable def body_impl_trim_c_0 : Code := (loopsIn code_impl_trim_c).getD 0 .skip
noncomputable def D_impl_trim_c_0 : LoopD := ⟨⟨mkSlots [(0, false, [.own 1408]), (3, false, [.d (.int .i64)])] 21 0, [(1408, .arr false .int)]⟩, [], [(.exit 0, ⟨mkSlots [(0, false, [.own 1408]), (3, false, [.d (.int .i64)])] 21 0, [(1408, .arr false .int)]⟩, [])]⟩
noncomputable def S_impl_trim_c_0_w (x : Tys D_impl_trim_c_0.head.ks) : Option (OutT D_impl_trim_c_0.outs) := @whileO (Int × (List Int) × Unit) (Int × (List Int) × Unit) S_impl_trim_c_0 x
noncomputable def E_impl_trim_c : Env := ⟨layD, [], [(2, mkLM D_impl_trim_c_0 S_impl_trim_c_0_w)], []⟩
theorem cons_impl_trim_c : ConsOk Try.prog E_impl_trim_c.cons := consOk_nil
theorem S_impl_trim_c_0_ok (x : Tys D_impl_trim_c_0.head.ks) : stepL E_impl_trim_c D_impl_trim_c_0 body_impl_trim_c_0 x = S_impl_trim_c_0 x := by kernel_rfl
theorem loops_impl_trim_c_0 : loopsIn body_impl_trim_c_0 = [] := by kernel_rfl
theorem l_impl_trim_c_0 : LoopOk Try.prog (mkLM D_impl_trim_c_0 S_impl_trim_c_0_w) body_impl_trim_c_0 := loop_ok2 mix layD_ok cons_impl_trim_c (by kernel_rfl) (loops_mem loops_impl_trim_c_0 (trivial)) S_impl_trim_c_0_ok fun _ _ h => h
theorem loops_impl_trim_c : loopsIn code_impl_trim_c = [body_impl_trim_c_0] := by kernel_rfl
theorem m_impl_trim_c : Meets Try.prog 164 c_impl_trim_c := meets_of (E := E_impl_trim_c) (code := code_impl_trim_c) mix layD_ok cons_impl_trim_c Try.func164 (by kernel_rfl) sg_impl_trim_c (by kernel_rfl) (fun y => y.1) c_impl_trim_c.out (fun _ => rfl) c_impl_trim_c.run (fun x => by kernel_rfl) (by kernel_rfl) (loops_mem loops_impl_trim_c (⟨⟨_, by kernel_rfl, l_impl_trim_c_0⟩, trivial⟩))

noncomputable def sg_impl_NatOf : Sig := ⟨[(false, [.d (.int .i64)])], [], false, [(false, [.own 0])], [(0, .arr false .int)]⟩
noncomputable def c_impl_NatOf : Con := ⟨sg_impl_NatOf, List Int, fun x => M_impl_NatOf x.1, fun r => (r, ())⟩
noncomputable def code_impl_NatOf : Code := Try.f181.body.getD .skip
noncomputable def body_impl_NatOf_0 : Code := (loopsIn code_impl_NatOf).getD 0 .skip
noncomputable def D_impl_NatOf_0 : LoopD := ⟨⟨mkSlots [(0, false, [.d (.int .i64)]), (3, false, [.own 960])] 14 0, [(960, .arr false .int)]⟩, [(.slot 3 0, 960, .int)], [(.exit 0, ⟨mkSlots [(3, false, [.own 960])] 14 0, [(960, .arr false .int)]⟩, [(.slot 3 0, 960, .int)])]⟩
noncomputable def S_impl_NatOf_0_w (x : Tys D_impl_NatOf_0.head.ks) : Option (OutT D_impl_NatOf_0.outs) := @whileO (Int × (List Int) × Unit) ((List Int) × Unit) S_impl_NatOf_0 x
noncomputable def E_impl_NatOf : Env := ⟨layD, [], [(2, mkLM D_impl_NatOf_0 S_impl_NatOf_0_w)], []⟩
theorem cons_impl_NatOf : ConsOk Try.prog E_impl_NatOf.cons := consOk_nil
theorem S_impl_NatOf_0_ok (x : Tys D_impl_NatOf_0.head.ks) : stepL E_impl_NatOf D_impl_NatOf_0 body_impl_NatOf_0 x = S_impl_NatOf_0 x := by kernel_rfl
theorem loops_impl_NatOf_0 : loopsIn body_impl_NatOf_0 = [] := by kernel_rfl
theorem l_impl_NatOf_0 : LoopOk Try.prog (mkLM D_impl_NatOf_0 S_impl_NatOf_0_w) body_impl_NatOf_0 := loop_ok2 mix layD_ok cons_impl_NatOf (by kernel_rfl) (loops_mem loops_impl_NatOf_0 (trivial)) S_impl_NatOf_0_ok fun _ _ h => h
theorem loops_impl_NatOf : loopsIn code_impl_NatOf = [body_impl_NatOf_0] := by kernel_rfl
theorem m_impl_NatOf : Meets Try.prog 181 c_impl_NatOf := meets_of (E := E_impl_NatOf) (code := code_impl_NatOf) mix layD_ok cons_impl_NatOf Try.func181 (by kernel_rfl) sg_impl_NatOf (by kernel_rfl) (fun y => y.1) c_impl_NatOf.out (fun _ => rfl) c_impl_NatOf.run (fun x => by kernel_rfl) (by kernel_rfl) (loops_mem loops_impl_NatOf (⟨⟨_, by kernel_rfl, l_impl_NatOf_0⟩, trivial⟩))

noncomputable def sg_impl_divSmall : Sig := ⟨[(false, [.d (.sl .int)]), (false, [.d (.int .i64)])], [], true, [(false, [.own 0]), (false, [.own 1])], [(0, .arr false .int), (1, .arr false .int)]⟩
noncomputable def c_impl_divSmall : Con := ⟨sg_impl_divSmall, List Int × List Int, fun x => M_impl_divSmall x.1 x.2.1, fun r => (r.1, r.2, ())⟩
noncomputable def code_impl_divSmall : Code := Try.f178.body.getD .skip
noncomputable def body_impl_divSmall_0 : Code := (loopsIn code_impl_divSmall).getD 0 .skip
noncomputable def D_impl_divSmall_0 : LoopD := ⟨⟨mkSlots [(0, false, [.d (.sl .int)]), (1, false, [.d (.int .i64)]), (6, false, [.own 2624]), (7, false, [.d (.int .i64)]), (8, false, [.d (.int .i64)])] 40 0, [(2624, .arr false .int)]⟩, [], [(.exit 0, ⟨mkSlots [(6, false, [.own 2624]), (7, false, [.d (.int .i64)])] 40 0, [(2624, .arr false .int)]⟩, [])]⟩
noncomputable def S_impl_divSmall_0_w (x : Tys D_impl_divSmall_0.head.ks) : Option (OutT D_impl_divSmall_0.outs) := @whileO ((List Int) × Int × Int × Int × (List Int) × Unit) (Int × (List Int) × Unit) S_impl_divSmall_0 x
noncomputable def E_impl_divSmall : Env := ⟨layD, [(164, c_impl_trim_c), (181, c_impl_NatOf)], [(4, mkLM D_impl_divSmall_0 S_impl_divSmall_0_w)], []⟩
theorem cons_impl_divSmall : ConsOk Try.prog E_impl_divSmall.cons := consOk_cons m_impl_trim_c (callable_of Try.func164 (by kernel_rfl)) (consOk_cons m_impl_NatOf (callable_of Try.func181 (by kernel_rfl)) (consOk_nil))
theorem S_impl_divSmall_0_ok (x : Tys D_impl_divSmall_0.head.ks) : stepL E_impl_divSmall D_impl_divSmall_0 body_impl_divSmall_0 x = S_impl_divSmall_0 x := by kernel_rfl
theorem loops_impl_divSmall_0 : loopsIn body_impl_divSmall_0 = [] := by kernel_rfl
theorem l_impl_divSmall_0 : LoopOk Try.prog (mkLM D_impl_divSmall_0 S_impl_divSmall_0_w) body_impl_divSmall_0 := loop_ok2 mix layD_ok cons_impl_divSmall (by kernel_rfl) (loops_mem loops_impl_divSmall_0 (trivial)) S_impl_divSmall_0_ok fun _ _ h => h
theorem loops_impl_divSmall : loopsIn code_impl_divSmall = [body_impl_divSmall_0] := by kernel_rfl
theorem m_impl_divSmall : Meets Try.prog 178 c_impl_divSmall := meets_of (E := E_impl_divSmall) (code := code_impl_divSmall) mix layD_ok cons_impl_divSmall Try.func178 (by kernel_rfl) sg_impl_divSmall (by kernel_rfl) (fun y => (y.1, y.2.1)) c_impl_divSmall.out (fun _ => rfl) c_impl_divSmall.run (fun x => by kernel_rfl) (by kernel_rfl) (loops_mem loops_impl_divSmall (⟨⟨_, by kernel_rfl, l_impl_divSmall_0⟩, trivial⟩))

noncomputable def sg_impl_natMul : Sig := ⟨[(false, [.d (.sl .int)]), (false, [.d (.sl .int)])], [], false, [(false, [.own 0])], [(0, .arr false .int)]⟩
noncomputable def c_impl_natMul : Con := ⟨sg_impl_natMul, List Int, fun x => M_impl_natMul x.1 x.2.1, fun r => (r, ())⟩
noncomputable def code_impl_natMul : Code := Try.f128.body.getD .skip
noncomputable def body_impl_natMul_0 : Code := (loopsIn code_impl_natMul).getD 0 .skip
noncomputable def body_impl_natMul_1 : Code := (loopsIn body_impl_natMul_0).getD 0 .skip
noncomputable def D_impl_natMul_0 : LoopD := ⟨⟨mkSlots [(1, false, [.d (.sl .int)]), (5, false, [.own 4352]), (18, false, [.d (.sl .int)]), (19, false, [.d (.int .i64)]), (20, false, [.d (.int .i64)])] 67 0, [(4352, .arr false .int)]⟩, [], [(.exit 0, ⟨mkSlots [(5, false, [.own 4352])] 67 0, [(4352, .arr false .int)]⟩, [])]⟩
noncomputable def D_impl_natMul_1 : LoopD := ⟨⟨mkSlots [(1, false, [.d (.sl .int)]), (5, false, [.own 4352]), (6, false, [.d (.int .i64)]), (7, false, [.d (.int .i64)]), (8, false, [.d (.int .i64)]), (18, false, [.d (.sl .int)]), (19, false, [.d (.int .i64)]), (20, false, [.d (.int .i64)]), (25, false, [.d (.sl .int)]), (26, false, [.d (.int .i64)]), (27, false, [.d (.int .i64)])] 67 0, [(4352, .arr false .int)]⟩, [], [(.exit 2, ⟨mkSlots [(1, false, [.d (.sl .int)]), (5, false, [.own 4352]), (6, false, [.d (.int .i64)]), (8, false, [.d (.int .i64)]), (18, false, [.d (.sl .int)]), (19, false, [.d (.int .i64)]), (20, false, [.d (.int .i64)])] 67 0, [(4352, .arr false .int)]⟩, [])]⟩
noncomputable def S_impl_natMul_0_w (x : Tys D_impl_natMul_0.head.ks) : Option (OutT D_impl_natMul_0.outs) := @whileO ((List Int) × (List Int) × Int × Int × (List Int) × Unit) ((List Int) × Unit) S_impl_natMul_0 x
noncomputable def S_impl_natMul_1_w (x : Tys D_impl_natMul_1.head.ks) : Option (OutT D_impl_natMul_1.outs) := @whileO ((List Int) × Int × Int × Int × (List Int) × Int × Int × (List Int) × Int × Int × (List Int) × Unit) ((List Int) × Int × Int × (List Int) × Int × Int × (List Int) × Unit) S_impl_natMul_1 x
noncomputable def E_impl_natMul : Env := ⟨layD, [(164, c_impl_trim_c)], [(3, mkLM D_impl_natMul_0 S_impl_natMul_0_w), (7, mkLM D_impl_natMul_1 S_impl_natMul_1_w)], []⟩
theorem cons_impl_natMul : ConsOk Try.prog E_impl_natMul.cons := consOk_cons m_impl_trim_c (callable_of Try.func164 (by kernel_rfl)) (consOk_nil)
theorem S_impl_natMul_1_ok (x : Tys D_impl_natMul_1.head.ks) : stepL E_impl_natMul D_impl_natMul_1 body_impl_natMul_1 x = S_impl_natMul_1 x := by kernel_rfl
theorem loops_impl_natMul_1 : loopsIn body_impl_natMul_1 = [] := by kernel_rfl
theorem l_impl_natMul_1 : LoopOk Try.prog (mkLM D_impl_natMul_1 S_impl_natMul_1_w) body_impl_natMul_1 := loop_ok2 mix layD_ok cons_impl_natMul (by kernel_rfl) (loops_mem loops_impl_natMul_1 (trivial)) S_impl_natMul_1_ok fun _ _ h => h
theorem S_impl_natMul_0_ok (x : Tys D_impl_natMul_0.head.ks) : stepL E_impl_natMul D_impl_natMul_0 body_impl_natMul_0 x = S_impl_natMul_0 x := by kernel_rfl
theorem loops_impl_natMul_0 : loopsIn body_impl_natMul_0 = [body_impl_natMul_1] := by kernel_rfl
theorem l_impl_natMul_0 : LoopOk Try.prog (mkLM D_impl_natMul_0 S_impl_natMul_0_w) body_impl_natMul_0 := loop_ok2 mix layD_ok cons_impl_natMul (by kernel_rfl) (loops_mem loops_impl_natMul_0 (⟨⟨_, by kernel_rfl, l_impl_natMul_1⟩, trivial⟩)) S_impl_natMul_0_ok fun _ _ h => h
theorem loops_impl_natMul : loopsIn code_impl_natMul = [body_impl_natMul_0] := by kernel_rfl
theorem m_impl_natMul : Meets Try.prog 128 c_impl_natMul := meets_of (E := E_impl_natMul) (code := code_impl_natMul) mix layD_ok cons_impl_natMul Try.func128 (by kernel_rfl) sg_impl_natMul (by kernel_rfl) (fun y => y.1) c_impl_natMul.out (fun _ => rfl) c_impl_natMul.run (fun x => by kernel_rfl) (by kernel_rfl) (loops_mem loops_impl_natMul (⟨⟨_, by kernel_rfl, l_impl_natMul_0⟩, trivial⟩))

noncomputable def sg_impl_natDiv : Sig := ⟨[(false, [.d (.sl .int)]), (false, [.d (.sl .int)])], [], true, [(false, [.own 0]), (false, [.own 1])], [(0, .arr false .int), (1, .arr false .int)]⟩
noncomputable def c_impl_natDiv : Con := ⟨sg_impl_natDiv, List Int × List Int, fun x => M_impl_natDiv x.1 x.2.1, fun r => (r.1, r.2, ())⟩
noncomputable def code_impl_natDiv : Code := Try.f159.body.getD .skip
noncomputable def body_impl_natDiv_0 : Code := (loopsIn code_impl_natDiv).getD 0 .skip
noncomputable def body_impl_natDiv_1 : Code := (loopsIn code_impl_natDiv).getD 1 .skip
noncomputable def body_impl_natDiv_2 : Code := (loopsIn body_impl_natDiv_1).getD 0 .skip
noncomputable def body_impl_natDiv_3 : Code := (loopsIn body_impl_natDiv_1).getD 1 .skip
noncomputable def body_impl_natDiv_4 : Code := (loopsIn body_impl_natDiv_1).getD 2 .skip
noncomputable def D_impl_natDiv_0 : LoopD := ⟨⟨mkSlots [(0, false, [.d (.sl .int)]), (6, false, [.d (.int .i64)]), (7, false, [.own 15360]), (8, false, [.own 15424]), (9, false, [.d (.int .i64)])] 239 0, [(15360, .arr false .int), (15424, .arr false .int)]⟩, [], [(.exit 0, ⟨mkSlots [(6, false, [.d (.int .i64)]), (7, false, [.own 15360]), (8, false, [.own 15424]), (9, false, [.d (.int .i64)])] 239 0, [(15360, .arr false .int), (15424, .arr false .int)]⟩, [])]⟩
noncomputable def D_impl_natDiv_1 : LoopD := ⟨⟨mkSlots [(6, false, [.d (.int .i64)]), (7, false, [.own 15360]), (8, false, [.own 15424]), (9, false, [.d (.int .i64)]), (10, false, [.own 15488]), (11, false, [.d (.int .i64)]), (12, false, [.d (.int .i64)])] 239 0, [(15360, .arr false .int), (15424, .arr false .int), (15488, .arr false .int)]⟩, [], [(.exit 2, ⟨mkSlots [(6, false, [.d (.int .i64)]), (7, false, [.own 15360]), (10, false, [.own 15488])] 239 0, [(15360, .arr false .int), (15488, .arr false .int)]⟩, [])]⟩
noncomputable def D_impl_natDiv_2 : LoopD := ⟨⟨mkSlots [(6, false, [.d (.int .i64)]), (7, false, [.own 15360]), (8, false, [.own 15424]), (9, false, [.d (.int .i64)]), (10, false, [.own 15488]), (11, false, [.d (.int .i64)]), (12, false, [.d (.int .i64)]), (14, false, [.d (.int .i64)]), (15, false, [.d (.int .i64)])] 239 0, [(15360, .arr false .int), (15424, .arr false .int), (15488, .arr false .int)]⟩, [], [(.exit 4, ⟨mkSlots [(6, false, [.d (.int .i64)]), (7, false, [.own 15360]), (8, false, [.own 15424]), (9, false, [.d (.int .i64)]), (10, false, [.own 15488]), (11, false, [.d (.int .i64)]), (12, false, [.d (.int .i64)]), (14, false, [.d (.int .i64)])] 239 0, [(15360, .arr false .int), (15424, .arr false .int), (15488, .arr false .int)]⟩, [])]⟩
noncomputable def D_impl_natDiv_3 : LoopD := ⟨⟨mkSlots [(6, false, [.d (.int .i64)]), (7, false, [.own 15360]), (8, false, [.own 15424]), (9, false, [.d (.int .i64)]), (10, false, [.own 15488]), (11, false, [.d (.int .i64)]), (12, false, [.d (.int .i64)]), (14, false, [.d (.int .i64)]), (16, false, [.d (.int .i64)]), (135, false, [.d (.int .i64)]), (136, false, [.d (.int .i64)])] 239 0, [(15360, .arr false .int), (15424, .arr false .int), (15488, .arr false .int)]⟩, [], [(.exit 6, ⟨mkSlots [(6, false, [.d (.int .i64)]), (7, false, [.own 15360]), (8, false, [.own 15424]), (9, false, [.d (.int .i64)]), (10, false, [.own 15488]), (11, false, [.d (.int .i64)]), (12, false, [.d (.int .i64)]), (14, false, [.d (.int .i64)]), (16, false, [.d (.int .i64)])] 239 0, [(15360, .arr false .int), (15424, .arr false .int), (15488, .arr false .int)]⟩, [])]⟩
noncomputable def D_impl_natDiv_4 : LoopD := ⟨⟨mkSlots [(6, false, [.d (.int .i64)]), (7, false, [.own 15360]), (8, false, [.own 15424]), (9, false, [.d (.int .i64)]), (10, false, [.own 15488]), (11, false, [.d (.int .i64)]), (12, false, [.d (.int .i64)]), (14, false, [.d (.int .i64)]), (19, false, [.d (.int .i64)]), (188, false, [.d (.int .i64)]), (189, false, [.d (.int .i64)])] 239 0, [(15360, .arr false .int), (15424, .arr false .int), (15488, .arr false .int)]⟩, [], [(.exit 8, ⟨mkSlots [(6, false, [.d (.int .i64)]), (7, false, [.own 15360]), (8, false, [.own 15424]), (9, false, [.d (.int .i64)]), (10, false, [.own 15488]), (11, false, [.d (.int .i64)]), (12, false, [.d (.int .i64)]), (14, false, [.d (.int .i64)]), (19, false, [.d (.int .i64)])] 239 0, [(15360, .arr false .int), (15424, .arr false .int), (15488, .arr false .int)]⟩, [])]⟩
noncomputable def S_impl_natDiv_0_w (x : Tys D_impl_natDiv_0.head.ks) : Option (OutT D_impl_natDiv_0.outs) := @whileO ((List Int) × Int × Int × (List Int) × (List Int) × Unit) (Int × Int × (List Int) × (List Int) × Unit) S_impl_natDiv_0 x
noncomputable def S_impl_natDiv_1_w (x : Tys D_impl_natDiv_1.head.ks) : Option (OutT D_impl_natDiv_1.outs) := @whileO (Int × Int × Int × Int × (List Int) × (List Int) × (List Int) × Unit) (Int × (List Int) × (List Int) × Unit) S_impl_natDiv_1 x
noncomputable def S_impl_natDiv_2_w (x : Tys D_impl_natDiv_2.head.ks) : Option (OutT D_impl_natDiv_2.outs) := @whileO (Int × Int × Int × Int × Int × Int × (List Int) × (List Int) × (List Int) × Unit) (Int × Int × Int × Int × Int × (List Int) × (List Int) × (List Int) × Unit) S_impl_natDiv_2 x
noncomputable def S_impl_natDiv_3_w (x : Tys D_impl_natDiv_3.head.ks) : Option (OutT D_impl_natDiv_3.outs) := @whileO (Int × Int × Int × Int × Int × Int × Int × Int × (List Int) × (List Int) × (List Int) × Unit) (Int × Int × Int × Int × Int × Int × (List Int) × (List Int) × (List Int) × Unit) S_impl_natDiv_3 x
noncomputable def S_impl_natDiv_4_w (x : Tys D_impl_natDiv_4.head.ks) : Option (OutT D_impl_natDiv_4.outs) := @whileO (Int × Int × Int × Int × Int × Int × Int × Int × (List Int) × (List Int) × (List Int) × Unit) (Int × Int × Int × Int × Int × Int × (List Int) × (List Int) × (List Int) × Unit) S_impl_natDiv_4 x
noncomputable def E_impl_natDiv : Env := ⟨layD, [(162, c_impl_natCmp), (121, c_impl_copyInts), (178, c_impl_divSmall), (128, c_impl_natMul), (164, c_impl_trim_c)], [(9, mkLM D_impl_natDiv_0 S_impl_natDiv_0_w), (14, mkLM D_impl_natDiv_1 S_impl_natDiv_1_w), (18, mkLM D_impl_natDiv_2 S_impl_natDiv_2_w), (24, mkLM D_impl_natDiv_3 S_impl_natDiv_3_w), (38, mkLM D_impl_natDiv_4 S_impl_natDiv_4_w)], [(16, [(0, []), (1, []), (2, []), (3, []), (4, []), (5, []), (6, []), (7, []), (8, []), (9, []), (10, []), (11, []), (12, []), (13, []), (14, []), (15, [14, 0, 1, 2, 3, 4, 5, 6, 7, 8, 9, 10, 11, 12, 13])]), (17, [(0, []), (1, []), (2, []), (3, []), (4, []), (5, []), (6, [2, 0, 1]), (7, [5, 6, 0, 1, 2, 3, 4])]), (18, [(0, []), (1, []), (2, []), (3, []), (4, []), (5, []), (6, []), (7, []), (8, []), (9, []), (10, []), (11, []), (12, []), (13, []), (14, []), (15, []), (16, []), (17, []), (18, []), (19, []), (20, []), (21, [])]), (26, [(0, []), (1, []), (2, []), (3, []), (4, []), (5, []), (6, []), (7, []), (8, []), (9, []), (10, []), (11, []), (12, []), (13, []), (14, []), (15, [14, 0, 1, 2, 3, 4, 5, 6, 7, 8, 9, 10, 11, 12, 13])]), (40, [(0, []), (1, []), (2, []), (3, []), (4, []), (5, []), (6, []), (7, []), (8, []), (9, []), (10, []), (11, []), (12, []), (13, [12, 0, 1, 2, 3, 4, 5, 6, 7, 8, 9, 10, 11])])]⟩
theorem cons_impl_natDiv : ConsOk Try.prog E_impl_natDiv.cons := consOk_cons m_impl_natCmp (callable_of Try.func162 (by kernel_rfl)) (consOk_cons m_impl_copyInts (callable_of Try.func121 (by kernel_rfl)) (consOk_cons m_impl_divSmall (callable_of Try.func178 (by kernel_rfl)) (consOk_cons m_impl_natMul (callable_of Try.func128 (by kernel_rfl)) (consOk_cons m_impl_trim_c (callable_of Try.func164 (by kernel_rfl)) (consOk_nil)))))
theorem S_impl_natDiv_4_ok (x : Tys D_impl_natDiv_4.head.ks) : stepL E_impl_natDiv D_impl_natDiv_4 body_impl_natDiv_4 x = S_impl_natDiv_4 x := by kernel_rfl
theorem loops_impl_natDiv_4 : loopsIn body_impl_natDiv_4 = [] := by kernel_rfl
theorem l_impl_natDiv_4 : LoopOk Try.prog (mkLM D_impl_natDiv_4 S_impl_natDiv_4_w) body_impl_natDiv_4 := loop_ok2 mix layD_ok cons_impl_natDiv (by kernel_rfl) (loops_mem loops_impl_natDiv_4 (trivial)) S_impl_natDiv_4_ok fun _ _ h => h
theorem S_impl_natDiv_3_ok (x : Tys D_impl_natDiv_3.head.ks) : stepL E_impl_natDiv D_impl_natDiv_3 body_impl_natDiv_3 x = S_impl_natDiv_3 x := by kernel_rfl
theorem loops_impl_natDiv_3 : loopsIn body_impl_natDiv_3 = [] := by kernel_rfl
theorem l_impl_natDiv_3 : LoopOk Try.prog (mkLM D_impl_natDiv_3 S_impl_natDiv_3_w) body_impl_natDiv_3 := loop_ok2 mix layD_ok cons_impl_natDiv (by kernel_rfl) (loops_mem loops_impl_natDiv_3 (trivial)) S_impl_natDiv_3_ok fun _ _ h => h
theorem S_impl_natDiv_2_ok (x : Tys D_impl_natDiv_2.head.ks) : stepL E_impl_natDiv D_impl_natDiv_2 body_impl_natDiv_2 x = S_impl_natDiv_2 x := by kernel_rfl
theorem loops_impl_natDiv_2 : loopsIn body_impl_natDiv_2 = [] := by kernel_rfl
theorem l_impl_natDiv_2 : LoopOk Try.prog (mkLM D_impl_natDiv_2 S_impl_natDiv_2_w) body_impl_natDiv_2 := loop_ok2 mix layD_ok cons_impl_natDiv (by kernel_rfl) (loops_mem loops_impl_natDiv_2 (trivial)) S_impl_natDiv_2_ok fun _ _ h => h
theorem S_impl_natDiv_1_ok (x : Tys D_impl_natDiv_1.head.ks) : stepL E_impl_natDiv D_impl_natDiv_1 body_impl_natDiv_1 x = S_impl_natDiv_1 x := by kernel_rfl
theorem loops_impl_natDiv_1 : loopsIn body_impl_natDiv_1 = [body_impl_natDiv_2, body_impl_natDiv_3, body_impl_natDiv_4] := by kernel_rfl
theorem l_impl_natDiv_1 : LoopOk Try.prog (mkLM D_impl_natDiv_1 S_impl_natDiv_1_w) body_impl_natDiv_1 := loop_ok2 mix layD_ok cons_impl_natDiv (by kernel_rfl) (loops_mem loops_impl_natDiv_1 (⟨⟨_, by kernel_rfl, l_impl_natDiv_2⟩, ⟨⟨_, by kernel_rfl, l_impl_natDiv_3⟩, ⟨⟨_, by kernel_rfl, l_impl_natDiv_4⟩, trivial⟩⟩⟩)) S_impl_natDiv_1_ok fun _ _ h => h
theorem S_impl_natDiv_0_ok (x : Tys D_impl_natDiv_0.head.ks) : stepL E_impl_natDiv D_impl_natDiv_0 body_impl_natDiv_0 x = S_impl_natDiv_0 x := by kernel_rfl
theorem loops_impl_natDiv_0 : loopsIn body_impl_natDiv_0 = [] := by kernel_rfl
theorem l_impl_natDiv_0 : LoopOk Try.prog (mkLM D_impl_natDiv_0 S_impl_natDiv_0_w) body_impl_natDiv_0 := loop_ok2 mix layD_ok cons_impl_natDiv (by kernel_rfl) (loops_mem loops_impl_natDiv_0 (trivial)) S_impl_natDiv_0_ok fun _ _ h => h
theorem loops_impl_natDiv : loopsIn code_impl_natDiv = [body_impl_natDiv_0, body_impl_natDiv_1] := by kernel_rfl
theorem m_impl_natDiv : Meets Try.prog 159 c_impl_natDiv := meets_of (E := E_impl_natDiv) (code := code_impl_natDiv) mix layD_ok cons_impl_natDiv Try.func159 (by kernel_rfl) sg_impl_natDiv (by kernel_rfl) (fun y => (y.1, y.2.1)) c_impl_natDiv.out (fun _ => rfl) c_impl_natDiv.run (fun x => by kernel_rfl) (by kernel_rfl) (loops_mem loops_impl_natDiv (⟨⟨_, by kernel_rfl, l_impl_natDiv_0⟩, ⟨⟨_, by kernel_rfl, l_impl_natDiv_1⟩, trivial⟩⟩))

noncomputable def sg_impl_natGcd : Sig := ⟨[(false, [.d (.sl .int)]), (false, [.d (.sl .int)])], [], false, [(false, [.own 0])], [(0, .arr false .int)]⟩
noncomputable def c_impl_natGcd : Con := ⟨sg_impl_natGcd, List Int, fun x => M_impl_natGcd x.1 x.2.1, fun r => (r, ())⟩
noncomputable def code_impl_natGcd : Code := Try.f158.body.getD .skip
noncomputable def body_impl_natGcd_0 : Code := (loopsIn code_impl_natGcd).getD 0 .skip
noncomputable def body_impl_natGcd_1 : Code := (loopsIn code_impl_natGcd).getD 1 .skip
noncomputable def D_impl_natGcd_0 : LoopD := ⟨⟨mkSlots [(0, false, [.d (.sl .int)]), (1, false, [.d (.sl .int)])] 49 0, []⟩, [], [(.exit 0, ⟨mkSlots [(0, false, [.d (.sl .int)]), (1, false, [.d (.sl .int)])] 49 0, []⟩, [])]⟩
noncomputable def D_impl_natGcd_1 : LoopD := ⟨⟨mkSlots [(7, false, [.d (.int .i64)]), (8, false, [.d (.int .i64)])] 49 0, []⟩, [], [(.exit 2, ⟨mkSlots [(7, false, [.d (.int .i64)])] 49 0, []⟩, [])]⟩
noncomputable def S_impl_natGcd_0_w (x : Tys D_impl_natGcd_0.head.ks) : Option (OutT D_impl_natGcd_0.outs) := @whileO ((List Int) × (List Int) × Unit) ((List Int) × (List Int) × Unit) S_impl_natGcd_0 x
noncomputable def S_impl_natGcd_1_w (x : Tys D_impl_natGcd_1.head.ks) : Option (OutT D_impl_natGcd_1.outs) := @whileO (Int × Int × Unit) (Int × Unit) S_impl_natGcd_1 x
noncomputable def E_impl_natGcd : Env := ⟨layD, [(159, c_impl_natDiv), (121, c_impl_copyInts)], [(1, mkLM D_impl_natGcd_0 S_impl_natGcd_0_w), (7, mkLM D_impl_natGcd_1 S_impl_natGcd_1_w)], [(6, [(0, []), (1, []), (2, []), (3, []), (4, []), (5, []), (6, [2, 0, 1]), (7, [5, 6, 0, 1, 2, 3, 4])]), (8, [(0, []), (1, []), (2, []), (3, []), (4, [0, 1]), (5, [3, 4, 0, 1, 2])])]⟩
theorem cons_impl_natGcd : ConsOk Try.prog E_impl_natGcd.cons := consOk_cons m_impl_natDiv (callable_of Try.func159 (by kernel_rfl)) (consOk_cons m_impl_copyInts (callable_of Try.func121 (by kernel_rfl)) (consOk_nil))
theorem S_impl_natGcd_1_ok (x : Tys D_impl_natGcd_1.head.ks) : stepL E_impl_natGcd D_impl_natGcd_1 body_impl_natGcd_1 x = S_impl_natGcd_1 x := by kernel_rfl
theorem loops_impl_natGcd_1 : loopsIn body_impl_natGcd_1 = [] := by kernel_rfl
theorem l_impl_natGcd_1 : LoopOk Try.prog (mkLM D_impl_natGcd_1 S_impl_natGcd_1_w) body_impl_natGcd_1 := loop_ok2 mix layD_ok cons_impl_natGcd (by kernel_rfl) (loops_mem loops_impl_natGcd_1 (trivial)) S_impl_natGcd_1_ok fun _ _ h => h
theorem S_impl_natGcd_0_ok (x : Tys D_impl_natGcd_0.head.ks) : stepL E_impl_natGcd D_impl_natGcd_0 body_impl_natGcd_0 x = S_impl_natGcd_0 x := by kernel_rfl
theorem loops_impl_natGcd_0 : loopsIn body_impl_natGcd_0 = [] := by kernel_rfl
theorem l_impl_natGcd_0 : LoopOk Try.prog (mkLM D_impl_natGcd_0 S_impl_natGcd_0_w) body_impl_natGcd_0 := loop_ok2 mix layD_ok cons_impl_natGcd (by kernel_rfl) (loops_mem loops_impl_natGcd_0 (trivial)) S_impl_natGcd_0_ok fun _ _ h => h
theorem loops_impl_natGcd : loopsIn code_impl_natGcd = [body_impl_natGcd_0, body_impl_natGcd_1] := by kernel_rfl
theorem m_impl_natGcd : Meets Try.prog 158 c_impl_natGcd := meets_of (E := E_impl_natGcd) (code := code_impl_natGcd) mix layD_ok cons_impl_natGcd Try.func158 (by kernel_rfl) sg_impl_natGcd (by kernel_rfl) (fun y => y.1) c_impl_natGcd.out (fun _ => rfl) c_impl_natGcd.run (fun x => by kernel_rfl) (by kernel_rfl) (loops_mem loops_impl_natGcd (⟨⟨_, by kernel_rfl, l_impl_natGcd_0⟩, ⟨⟨_, by kernel_rfl, l_impl_natGcd_1⟩, trivial⟩⟩))

noncomputable def sg_impl_isOne : Sig := ⟨[(false, [.d (.sl .int)])], [], false, [(false, [.d (.bool)])], []⟩
noncomputable def c_impl_isOne : Con := ⟨sg_impl_isOne, Bool, fun x => M_impl_isOne x.1, fun r => (r, ())⟩
noncomputable def code_impl_isOne : Code := Try.f157.body.getD .skip
noncomputable def E_impl_isOne : Env := ⟨layD, [], [], []⟩
theorem cons_impl_isOne : ConsOk Try.prog E_impl_isOne.cons := consOk_nil
theorem loops_impl_isOne : loopsIn code_impl_isOne = [] := by kernel_rfl
theorem m_impl_isOne : Meets Try.prog 157 c_impl_isOne := meets_of (E := E_impl_isOne) (code := code_impl_isOne) mix layD_ok cons_impl_isOne Try.func157 (by kernel_rfl) sg_impl_isOne (by kernel_rfl) (fun y => y.1) c_impl_isOne.out (fun _ => rfl) c_impl_isOne.run (fun x => by kernel_rfl) (by kernel_rfl) (loops_mem loops_impl_isOne (trivial))

noncomputable def sg_impl_RatOk : Sig := ⟨[(true, [.d (.bool), .d (.sl .int), .d (.sl .int)])], [], false, [(false, [.d (.bool)])], []⟩
noncomputable def c_impl_RatOk : Con := ⟨sg_impl_RatOk, Bool, fun x => M_impl_RatOk (⟨x.1, x.2.1, x.2.2.1⟩ : Rt), fun r => (r, ())⟩
noncomputable def code_impl_RatOk : Code := Try.f120.body.getD .skip
noncomputable def E_impl_RatOk : Env := ⟨layD, [(155, c_impl_BigIntOk), (156, c_impl_NatOk), (158, c_impl_natGcd), (157, c_impl_isOne)], [], []⟩
theorem cons_impl_RatOk : ConsOk Try.prog E_impl_RatOk.cons := consOk_cons m_impl_BigIntOk (callable_of Try.func155 (by kernel_rfl)) (consOk_cons m_impl_NatOk (callable_of Try.func156 (by kernel_rfl)) (consOk_cons m_impl_natGcd (callable_of Try.func158 (by kernel_rfl)) (consOk_cons m_impl_isOne (callable_of Try.func157 (by kernel_rfl)) (consOk_nil))))
theorem loops_impl_RatOk : loopsIn code_impl_RatOk = [] := by kernel_rfl
theorem m_impl_RatOk : Meets Try.prog 120 c_impl_RatOk := meets_of (E := E_impl_RatOk) (code := code_impl_RatOk) mix layD_ok cons_impl_RatOk Try.func120 (by kernel_rfl) sg_impl_RatOk (by kernel_rfl) (fun y => y.1) c_impl_RatOk.out (fun _ => rfl) c_impl_RatOk.run (fun x => by kernel_rfl) (by kernel_rfl) (loops_mem loops_impl_RatOk (trivial))

noncomputable def sg_impl_MatrixOk : Sig := ⟨[(true, [.d (.int .i64), .d (.int .i64), .d (.sl .rat)])], [], false, [(false, [.d (.bool)])], []⟩
noncomputable def c_impl_MatrixOk : Con := ⟨sg_impl_MatrixOk, Bool, fun x => M_impl_MatrixOk (⟨x.1, x.2.1, x.2.2.1⟩ : Mx), fun r => (r, ())⟩
noncomputable def code_impl_MatrixOk : Code := Try.f76.body.getD .skip
noncomputable def body_impl_MatrixOk_0 : Code := (loopsIn code_impl_MatrixOk).getD 0 .skip
noncomputable def D_impl_MatrixOk_0 : LoopD := ⟨⟨mkSlots [(27, false, [.d (.sl .rat)]), (28, false, [.d (.int .i64)]), (29, false, [.d (.int .i64)])] 37 0, []⟩, [], [(.ret, ⟨mkSlots [(2, false, [.d (.bool)])] 37 0, []⟩, []), (.exit 0, ⟨mkSlots [] 37 0, []⟩, [])]⟩
noncomputable def S_impl_MatrixOk_0_w (x : Tys D_impl_MatrixOk_0.head.ks) : Option (OutT D_impl_MatrixOk_0.outs) := @whileO ((List Rt) × Int × Int × Unit) ((Bool × Unit) ⊕ (Unit)) S_impl_MatrixOk_0 x
noncomputable def E_impl_MatrixOk : Env := ⟨layD, [(71, c_impl_isLength), (120, c_impl_RatOk)], [(4, mkLM D_impl_MatrixOk_0 S_impl_MatrixOk_0_w)], []⟩
theorem cons_impl_MatrixOk : ConsOk Try.prog E_impl_MatrixOk.cons := consOk_cons m_impl_isLength (callable_of Try.func71 (by kernel_rfl)) (consOk_cons m_impl_RatOk (callable_of Try.func120 (by kernel_rfl)) (consOk_nil))
theorem S_impl_MatrixOk_0_ok (x : Tys D_impl_MatrixOk_0.head.ks) : stepL E_impl_MatrixOk D_impl_MatrixOk_0 body_impl_MatrixOk_0 x = S_impl_MatrixOk_0 x := by kernel_rfl
theorem loops_impl_MatrixOk_0 : loopsIn body_impl_MatrixOk_0 = [] := by kernel_rfl
theorem l_impl_MatrixOk_0 : LoopOk Try.prog (mkLM D_impl_MatrixOk_0 S_impl_MatrixOk_0_w) body_impl_MatrixOk_0 := loop_ok2 mix layD_ok cons_impl_MatrixOk (by kernel_rfl) (loops_mem loops_impl_MatrixOk_0 (trivial)) S_impl_MatrixOk_0_ok fun _ _ h => h
theorem loops_impl_MatrixOk : loopsIn code_impl_MatrixOk = [body_impl_MatrixOk_0] := by kernel_rfl
theorem m_impl_MatrixOk : Meets Try.prog 76 c_impl_MatrixOk := meets_of (E := E_impl_MatrixOk) (code := code_impl_MatrixOk) mix layD_ok cons_impl_MatrixOk Try.func76 (by kernel_rfl) sg_impl_MatrixOk (by kernel_rfl) (fun y => y.1) c_impl_MatrixOk.out (fun _ => rfl) c_impl_MatrixOk.run (fun x => by kernel_rfl) (by kernel_rfl) (loops_mem loops_impl_MatrixOk (⟨⟨_, by kernel_rfl, l_impl_MatrixOk_0⟩, trivial⟩))

noncomputable def sg_impl_signed_dc : Sig := ⟨[(false, [.d (.bool)]), (false, [.own 64])], [(64, .arr false .int)], false, [(true, [.d (.bool), .own 0])], [(0, .arr false .int)]⟩
noncomputable def c_impl_signed_dc : Con := ⟨sg_impl_signed_dc, Bg, fun x => M_impl_signed_dc x.1 x.2.1, fun r => (r.neg, r.mag, ())⟩
noncomputable def code_impl_signed_dc : Code := Try.f160.body.getD .skip
noncomputable def E_impl_signed_dc : Env := ⟨layD, [], [], []⟩
theorem cons_impl_signed_dc : ConsOk Try.prog E_impl_signed_dc.cons := consOk_nil
theorem loops_impl_signed_dc : loopsIn code_impl_signed_dc = [] := by kernel_rfl
theorem m_impl_signed_dc : Meets Try.prog 160 c_impl_signed_dc := meets_of (E := E_impl_signed_dc) (code := code_impl_signed_dc) mix layD_ok cons_impl_signed_dc Try.func160 (by kernel_rfl) sg_impl_signed_dc (by kernel_rfl) (fun y => (⟨y.1, y.2.1⟩ : Bg)) c_impl_signed_dc.out (fun _ => rfl) c_impl_signed_dc.run (fun x => by kernel_rfl) (by kernel_rfl) (loops_mem loops_impl_signed_dc (trivial))

noncomputable def sg_impl_natAdd : Sig := ⟨[(false, [.d (.sl .int)]), (false, [.d (.sl .int)])], [], false, [(false, [.own 0])], [(0, .arr false .int)]⟩
noncomputable def c_impl_natAdd : Con := ⟨sg_impl_natAdd, List Int, fun x => M_impl_natAdd x.1 x.2.1, fun r => (r, ())⟩
noncomputable def code_impl_natAdd : Code := Try.f161.body.getD .skip
noncomputable def body_impl_natAdd_0 : Code := (loopsIn code_impl_natAdd).getD 0 .skip
noncomputable def D_impl_natAdd_0 : LoopD := ⟨⟨mkSlots [(0, false, [.d (.sl .int)]), (1, false, [.d (.sl .int)]), (5, false, [.own 3648]), (6, false, [.d (.int .i64)]), (21, false, [.d (.int .i64)]), (22, false, [.d (.int .i64)])] 56 0, [(3648, .arr false .int)]⟩, [], [(.exit 0, ⟨mkSlots [(5, false, [.own 3648]), (6, false, [.d (.int .i64)])] 56 0, [(3648, .arr false .int)]⟩, [])]⟩
noncomputable def S_impl_natAdd_0_w (x : Tys D_impl_natAdd_0.head.ks) : Option (OutT D_impl_natAdd_0.outs) := @whileO ((List Int) × (List Int) × Int × Int × Int × (List Int) × Unit) (Int × (List Int) × Unit) S_impl_natAdd_0 x
noncomputable def E_impl_natAdd : Env := ⟨layD, [], [(6, mkLM D_impl_natAdd_0 S_impl_natAdd_0_w)], []⟩
theorem cons_impl_natAdd : ConsOk Try.prog E_impl_natAdd.cons := consOk_nil
theorem S_impl_natAdd_0_ok (x : Tys D_impl_natAdd_0.head.ks) : stepL E_impl_natAdd D_impl_natAdd_0 body_impl_natAdd_0 x = S_impl_natAdd_0 x := by kernel_rfl
theorem loops_impl_natAdd_0 : loopsIn body_impl_natAdd_0 = [] := by kernel_rfl
theorem l_impl_natAdd_0 : LoopOk Try.prog (mkLM D_impl_natAdd_0 S_impl_natAdd_0_w) body_impl_natAdd_0 := loop_ok2 mix layD_ok cons_impl_natAdd (by kernel_rfl) (loops_mem loops_impl_natAdd_0 (trivial)) S_impl_natAdd_0_ok fun _ _ h => h
theorem loops_impl_natAdd : loopsIn code_impl_natAdd = [body_impl_natAdd_0] := by kernel_rfl
theorem m_impl_natAdd : Meets Try.prog 161 c_impl_natAdd := meets_of (E := E_impl_natAdd) (code := code_impl_natAdd) mix layD_ok cons_impl_natAdd Try.func161 (by kernel_rfl) sg_impl_natAdd (by kernel_rfl) (fun y => y.1) c_impl_natAdd.out (fun _ => rfl) c_impl_natAdd.run (fun x => by kernel_rfl) (by kernel_rfl) (loops_mem loops_impl_natAdd (⟨⟨_, by kernel_rfl, l_impl_natAdd_0⟩, trivial⟩))

noncomputable def sg_impl_BigIntOf : Sig := ⟨[(false, [.d (.int .i64)])], [], false, [(true, [.d (.bool), .own 0])], [(0, .arr false .int)]⟩
noncomputable def c_impl_BigIntOf : Con := ⟨sg_impl_BigIntOf, Bg, fun x => M_impl_BigIntOf x.1, fun r => (r.neg, r.mag, ())⟩
noncomputable def code_impl_BigIntOf : Code := Try.f177.body.getD .skip
noncomputable def E_impl_BigIntOf : Env := ⟨layD, [(181, c_impl_NatOf), (160, c_impl_signed_dc), (161, c_impl_natAdd)], [], []⟩
theorem cons_impl_BigIntOf : ConsOk Try.prog E_impl_BigIntOf.cons := consOk_cons m_impl_NatOf (callable_of Try.func181 (by kernel_rfl)) (consOk_cons m_impl_signed_dc (callable_of Try.func160 (by kernel_rfl)) (consOk_cons m_impl_natAdd (callable_of Try.func161 (by kernel_rfl)) (consOk_nil)))
theorem loops_impl_BigIntOf : loopsIn code_impl_BigIntOf = [] := by kernel_rfl
theorem m_impl_BigIntOf : Meets Try.prog 177 c_impl_BigIntOf := meets_of (E := E_impl_BigIntOf) (code := code_impl_BigIntOf) mix layD_ok cons_impl_BigIntOf Try.func177 (by kernel_rfl) sg_impl_BigIntOf (by kernel_rfl) (fun y => (⟨y.1, y.2.1⟩ : Bg)) c_impl_BigIntOf.out (fun _ => rfl) c_impl_BigIntOf.run (fun x => by kernel_rfl) (by kernel_rfl) (loops_mem loops_impl_BigIntOf (trivial))

noncomputable def sg_impl_signed : Sig := ⟨[(false, [.d (.bool)]), (false, [.d (.sl .int)])], [], false, [(true, [.d (.bool), .d (.sl .int)])], []⟩
noncomputable def c_impl_signed : Con := ⟨sg_impl_signed, Bg, fun x => M_impl_signed x.1 x.2.1, fun r => (r.neg, r.mag, ())⟩
noncomputable def code_impl_signed : Code := Try.f160.body.getD .skip
noncomputable def E_impl_signed : Env := ⟨layD, [], [], []⟩
theorem cons_impl_signed : ConsOk Try.prog E_impl_signed.cons := consOk_nil
theorem loops_impl_signed : loopsIn code_impl_signed = [] := by kernel_rfl
theorem m_impl_signed : Meets Try.prog 160 c_impl_signed := meets_of (E := E_impl_signed) (code := code_impl_signed) mix layD_ok cons_impl_signed Try.func160 (by kernel_rfl) sg_impl_signed (by kernel_rfl) (fun y => (⟨y.1, y.2.1⟩ : Bg)) c_impl_signed.out (fun _ => rfl) c_impl_signed.run (fun x => by kernel_rfl) (by kernel_rfl) (loops_mem loops_impl_signed (trivial))

noncomputable def sg_impl_lowest : Sig := ⟨[(true, [.d (.bool), .d (.sl .int)]), (false, [.d (.sl .int)])], [], false, [(true, [.d (.bool), .d (.sl .int), .d (.sl .int)])], []⟩
noncomputable def c_impl_lowest : Con := ⟨sg_impl_lowest, Rt, fun x => M_impl_lowest (⟨x.1, x.2.1⟩ : Bg) x.2.2.1, fun r => (r.neg, r.mag, r.den, ())⟩
noncomputable def code_impl_lowest : Code := Try.f125.body.getD .skip
noncomputable def E_impl_lowest : Env := ⟨layD, [(158, c_impl_natGcd), (157, c_impl_isOne), (159, c_impl_natDiv), (160, c_impl_signed_dc)], [], []⟩
theorem cons_impl_lowest : ConsOk Try.prog E_impl_lowest.cons := consOk_cons m_impl_natGcd (callable_of Try.func158 (by kernel_rfl)) (consOk_cons m_impl_isOne (callable_of Try.func157 (by kernel_rfl)) (consOk_cons m_impl_natDiv (callable_of Try.func159 (by kernel_rfl)) (consOk_cons m_impl_signed_dc (callable_of Try.func160 (by kernel_rfl)) (consOk_nil))))
theorem loops_impl_lowest : loopsIn code_impl_lowest = [] := by kernel_rfl
theorem m_impl_lowest : Meets Try.prog 125 c_impl_lowest := meets_of (E := E_impl_lowest) (code := code_impl_lowest) mix layD_ok cons_impl_lowest Try.func125 (by kernel_rfl) sg_impl_lowest (by kernel_rfl) (fun y => (⟨y.1, y.2.1, y.2.2.1⟩ : Rt)) c_impl_lowest.out (fun _ => rfl) c_impl_lowest.run (fun x => by kernel_rfl) (by kernel_rfl) (loops_mem loops_impl_lowest (trivial))

noncomputable def sg_impl_copyRat : Sig := ⟨[(true, [.d (.bool), .d (.sl .int), .d (.sl .int)])], [], false, [(true, [.d (.bool), .own 0, .own 1])], [(0, .arr false .int), (1, .arr false .int)]⟩
noncomputable def c_impl_copyRat : Con := ⟨sg_impl_copyRat, Rt, fun x => M_impl_copyRat (⟨x.1, x.2.1, x.2.2.1⟩ : Rt), fun r => (r.neg, r.mag, r.den, ())⟩
noncomputable def code_impl_copyRat : Code := Try.f77.body.getD .skip
noncomputable def E_impl_copyRat : Env := ⟨layD, [(121, c_impl_copyInts)], [], [(1, [(0, []), (1, []), (2, []), (3, []), (4, []), (5, []), (8, []), (9, []), (6, [5, 4, 3]), (7, []), (10, [9, 6, 8, 5, 4, 3]), (11, []), (12, [11, 10, 0, 1, 2, 3, 4, 5, 6, 7, 8, 9])])]⟩
theorem cons_impl_copyRat : ConsOk Try.prog E_impl_copyRat.cons := consOk_cons m_impl_copyInts (callable_of Try.func121 (by kernel_rfl)) (consOk_nil)
theorem loops_impl_copyRat : loopsIn code_impl_copyRat = [] := by kernel_rfl
theorem m_impl_copyRat : Meets Try.prog 77 c_impl_copyRat := meets_of (E := E_impl_copyRat) (code := code_impl_copyRat) mix layD_ok cons_impl_copyRat Try.func77 (by kernel_rfl) sg_impl_copyRat (by kernel_rfl) (fun y => (⟨y.1, y.2.1, y.2.2.1⟩ : Rt)) c_impl_copyRat.out (fun _ => rfl) c_impl_copyRat.run (fun x => by kernel_rfl) (by kernel_rfl) (loops_mem loops_impl_copyRat (trivial))

noncomputable def sg_impl_RatMake : Sig := ⟨[(true, [.d (.bool), .d (.sl .int)]), (true, [.d (.bool), .d (.sl .int)])], [], false, [(true, [.d (.bool), .own 0, .own 1])], [(0, .arr false .int), (1, .arr false .int)]⟩
noncomputable def c_impl_RatMake : Con := ⟨sg_impl_RatMake, Rt, fun x => M_impl_RatMake (⟨x.1, x.2.1⟩ : Bg) (⟨x.2.2.1, x.2.2.2.1⟩ : Bg), fun r => (r.neg, r.mag, r.den, ())⟩
noncomputable def code_impl_RatMake : Code := Try.f176.body.getD .skip
noncomputable def E_impl_RatMake : Env := ⟨layD, [(155, c_impl_BigIntOk), (160, c_impl_signed), (125, c_impl_lowest), (77, c_impl_copyRat)], [], [(3, [(0, []), (1, []), (2, []), (3, []), (4, []), (5, []), (6, []), (8, []), (9, []), (7, [4, 6, 1, 3, 5, 0, 2]), (10, [7, 9, 4, 6, 8, 1, 3, 5, 0, 2]), (11, [10, 7, 9, 4, 6, 8, 1, 3, 5, 0, 2]), (12, [11, 0, 1, 2, 3, 4, 5, 6, 7, 8, 9, 10])])]⟩
theorem cons_impl_RatMake : ConsOk Try.prog E_impl_RatMake.cons := consOk_cons m_impl_BigIntOk (callable_of Try.func155 (by kernel_rfl)) (consOk_cons m_impl_signed (callable_of Try.func160 (by kernel_rfl)) (consOk_cons m_impl_lowest (callable_of Try.func125 (by kernel_rfl)) (consOk_cons m_impl_copyRat (callable_of Try.func77 (by kernel_rfl)) (consOk_nil))))
theorem loops_impl_RatMake : loopsIn code_impl_RatMake = [] := by kernel_rfl
theorem m_impl_RatMake : Meets Try.prog 176 c_impl_RatMake := meets_of (E := E_impl_RatMake) (code := code_impl_RatMake) mix layD_ok cons_impl_RatMake Try.func176 (by kernel_rfl) sg_impl_RatMake (by kernel_rfl) (fun y => (⟨y.1, y.2.1, y.2.2.1⟩ : Rt)) c_impl_RatMake.out (fun _ => rfl) c_impl_RatMake.run (fun x => by kernel_rfl) (by kernel_rfl) (loops_mem loops_impl_RatMake (trivial))

noncomputable def sg_impl_RatOf : Sig := ⟨[(false, [.d (.int .i64)]), (false, [.d (.int .i64)])], [], false, [(true, [.d (.bool), .own 0, .own 1])], [(0, .arr false .int), (1, .arr false .int)]⟩
noncomputable def c_impl_RatOf : Con := ⟨sg_impl_RatOf, Rt, fun x => M_impl_RatOf x.1 x.2.1, fun r => (r.neg, r.mag, r.den, ())⟩
noncomputable def code_impl_RatOf : Code := Try.f154.body.getD .skip
noncomputable def E_impl_RatOf : Env := ⟨layD, [(177, c_impl_BigIntOf), (176, c_impl_RatMake)], [], []⟩
theorem cons_impl_RatOf : ConsOk Try.prog E_impl_RatOf.cons := consOk_cons m_impl_BigIntOf (callable_of Try.func177 (by kernel_rfl)) (consOk_cons m_impl_RatMake (callable_of Try.func176 (by kernel_rfl)) (consOk_nil))
theorem loops_impl_RatOf : loopsIn code_impl_RatOf = [] := by kernel_rfl
theorem m_impl_RatOf : Meets Try.prog 154 c_impl_RatOf := meets_of (E := E_impl_RatOf) (code := code_impl_RatOf) mix layD_ok cons_impl_RatOf Try.func154 (by kernel_rfl) sg_impl_RatOf (by kernel_rfl) (fun y => (⟨y.1, y.2.1, y.2.2.1⟩ : Rt)) c_impl_RatOf.out (fun _ => rfl) c_impl_RatOf.run (fun x => by kernel_rfl) (by kernel_rfl) (loops_mem loops_impl_RatOf (trivial))

noncomputable def sg_impl_RatFromInt : Sig := ⟨[(false, [.d (.int .i64)])], [], false, [(true, [.d (.bool), .own 0, .own 1])], [(0, .arr false .int), (1, .arr false .int)]⟩
noncomputable def c_impl_RatFromInt : Con := ⟨sg_impl_RatFromInt, Rt, fun x => M_impl_RatFromInt x.1, fun r => (r.neg, r.mag, r.den, ())⟩
noncomputable def code_impl_RatFromInt : Code := Try.f119.body.getD .skip
noncomputable def E_impl_RatFromInt : Env := ⟨layD, [(154, c_impl_RatOf)], [], []⟩
theorem cons_impl_RatFromInt : ConsOk Try.prog E_impl_RatFromInt.cons := consOk_cons m_impl_RatOf (callable_of Try.func154 (by kernel_rfl)) (consOk_nil)
theorem loops_impl_RatFromInt : loopsIn code_impl_RatFromInt = [] := by kernel_rfl
theorem m_impl_RatFromInt : Meets Try.prog 119 c_impl_RatFromInt := meets_of (E := E_impl_RatFromInt) (code := code_impl_RatFromInt) mix layD_ok cons_impl_RatFromInt Try.func119 (by kernel_rfl) sg_impl_RatFromInt (by kernel_rfl) (fun y => (⟨y.1, y.2.1, y.2.2.1⟩ : Rt)) c_impl_RatFromInt.out (fun _ => rfl) c_impl_RatFromInt.run (fun x => by kernel_rfl) (by kernel_rfl) (loops_mem loops_impl_RatFromInt (trivial))

noncomputable def sg_impl_whole : Sig := ⟨[(false, [.d (.int .i64)])], [], false, [(true, [.d (.bool), .own 0, .own 1])], [(0, .arr false .int), (1, .arr false .int)]⟩
noncomputable def c_impl_whole : Con := ⟨sg_impl_whole, Rt, fun x => M_impl_whole x.1, fun r => (r.neg, r.mag, r.den, ())⟩
noncomputable def code_impl_whole : Code := Try.f72.body.getD .skip
noncomputable def E_impl_whole : Env := ⟨layD, [(119, c_impl_RatFromInt)], [], []⟩
theorem cons_impl_whole : ConsOk Try.prog E_impl_whole.cons := consOk_cons m_impl_RatFromInt (callable_of Try.func119 (by kernel_rfl)) (consOk_nil)
theorem loops_impl_whole : loopsIn code_impl_whole = [] := by kernel_rfl
theorem m_impl_whole : Meets Try.prog 72 c_impl_whole := meets_of (E := E_impl_whole) (code := code_impl_whole) mix layD_ok cons_impl_whole Try.func72 (by kernel_rfl) sg_impl_whole (by kernel_rfl) (fun y => (⟨y.1, y.2.1, y.2.2.1⟩ : Rt)) c_impl_whole.out (fun _ => rfl) c_impl_whole.run (fun x => by kernel_rfl) (by kernel_rfl) (loops_mem loops_impl_whole (trivial))

noncomputable def sg_impl_Matrix_at : Sig := ⟨[(true, [.d (.int .i64), .d (.int .i64), .d (.sl .rat)]), (false, [.d (.int .i64)]), (false, [.d (.int .i64)])], [], false, [(true, [.d (.bool), .d (.sl .int), .d (.sl .int)])], []⟩
noncomputable def c_impl_Matrix_at : Con := ⟨sg_impl_Matrix_at, Rt, fun x => M_impl_Matrix_at (⟨x.1, x.2.1, x.2.2.1⟩ : Mx) x.2.2.2.1 x.2.2.2.2.1, fun r => (r.neg, r.mag, r.den, ())⟩
noncomputable def code_impl_Matrix_at : Code := Try.f78.body.getD .skip
noncomputable def E_impl_Matrix_at : Env := ⟨layD, [], [], []⟩
theorem cons_impl_Matrix_at : ConsOk Try.prog E_impl_Matrix_at.cons := consOk_nil
theorem loops_impl_Matrix_at : loopsIn code_impl_Matrix_at = [] := by kernel_rfl
theorem m_impl_Matrix_at : Meets Try.prog 78 c_impl_Matrix_at := meets_of (E := E_impl_Matrix_at) (code := code_impl_Matrix_at) mix layD_ok cons_impl_Matrix_at Try.func78 (by kernel_rfl) sg_impl_Matrix_at (by kernel_rfl) (fun y => (⟨y.1, y.2.1, y.2.2.1⟩ : Rt)) c_impl_Matrix_at.out (fun _ => rfl) c_impl_Matrix_at.run (fun x => by kernel_rfl) (by kernel_rfl) (loops_mem loops_impl_Matrix_at (trivial))

noncomputable def sg_impl_void : Sig := ⟨[(true, [.d (.bool), .d (.sl .int), .d (.sl .int)])], [], false, [(false, [.d (.bool)])], []⟩
noncomputable def c_impl_void : Con := ⟨sg_impl_void, Bool, fun x => M_impl_void (⟨x.1, x.2.1, x.2.2.1⟩ : Rt), fun r => (r, ())⟩
noncomputable def code_impl_void : Code := Try.f123.body.getD .skip
noncomputable def E_impl_void : Env := ⟨layD, [], [], []⟩
theorem cons_impl_void : ConsOk Try.prog E_impl_void.cons := consOk_nil
theorem loops_impl_void : loopsIn code_impl_void = [] := by kernel_rfl
theorem m_impl_void : Meets Try.prog 123 c_impl_void := meets_of (E := E_impl_void) (code := code_impl_void) mix layD_ok cons_impl_void Try.func123 (by kernel_rfl) sg_impl_void (by kernel_rfl) (fun y => y.1) c_impl_void.out (fun _ => rfl) c_impl_void.run (fun x => by kernel_rfl) (by kernel_rfl) (loops_mem loops_impl_void (trivial))

noncomputable def sg_impl_sameInts : Sig := ⟨[(false, [.d (.sl .int)]), (false, [.d (.sl .int)])], [], false, [(false, [.d (.bool)])], []⟩
noncomputable def c_impl_sameInts : Con := ⟨sg_impl_sameInts, Bool, fun x => M_impl_sameInts x.1 x.2.1, fun r => (r, ())⟩
noncomputable def code_impl_sameInts : Code := Try.f124.body.getD .skip
noncomputable def body_impl_sameInts_0 : Code := (loopsIn code_impl_sameInts).getD 0 .skip
noncomputable def D_impl_sameInts_0 : LoopD := ⟨⟨mkSlots [(0, false, [.d (.sl .int)]), (1, false, [.d (.sl .int)]), (12, false, [.d (.int .i64)]), (13, false, [.d (.int .i64)])] 26 0, []⟩, [], [(.ret, ⟨mkSlots [(4, false, [.d (.bool)])] 26 0, []⟩, []), (.exit 0, ⟨mkSlots [] 26 0, []⟩, [])]⟩
noncomputable def S_impl_sameInts_0_w (x : Tys D_impl_sameInts_0.head.ks) : Option (OutT D_impl_sameInts_0.outs) := @whileO ((List Int) × (List Int) × Int × Int × Unit) ((Bool × Unit) ⊕ (Unit)) S_impl_sameInts_0 x
noncomputable def E_impl_sameInts : Env := ⟨layD, [], [(4, mkLM D_impl_sameInts_0 S_impl_sameInts_0_w)], [(6, [(0, []), (1, []), (2, []), (3, []), (4, []), (5, []), (6, []), (7, []), (8, [])])]⟩
theorem cons_impl_sameInts : ConsOk Try.prog E_impl_sameInts.cons := consOk_nil
theorem S_impl_sameInts_0_ok (x : Tys D_impl_sameInts_0.head.ks) : stepL E_impl_sameInts D_impl_sameInts_0 body_impl_sameInts_0 x = S_impl_sameInts_0 x := by kernel_rfl
theorem loops_impl_sameInts_0 : loopsIn body_impl_sameInts_0 = [] := by kernel_rfl
theorem l_impl_sameInts_0 : LoopOk Try.prog (mkLM D_impl_sameInts_0 S_impl_sameInts_0_w) body_impl_sameInts_0 := loop_ok2 mix layD_ok cons_impl_sameInts (by kernel_rfl) (loops_mem loops_impl_sameInts_0 (trivial)) S_impl_sameInts_0_ok fun _ _ h => h
theorem loops_impl_sameInts : loopsIn code_impl_sameInts = [body_impl_sameInts_0] := by kernel_rfl
theorem m_impl_sameInts : Meets Try.prog 124 c_impl_sameInts := meets_of (E := E_impl_sameInts) (code := code_impl_sameInts) mix layD_ok cons_impl_sameInts Try.func124 (by kernel_rfl) sg_impl_sameInts (by kernel_rfl) (fun y => y.1) c_impl_sameInts.out (fun _ => rfl) c_impl_sameInts.run (fun x => by kernel_rfl) (by kernel_rfl) (loops_mem loops_impl_sameInts (⟨⟨_, by kernel_rfl, l_impl_sameInts_0⟩, trivial⟩))

noncomputable def sg_impl_natSub : Sig := ⟨[(false, [.d (.sl .int)]), (false, [.d (.sl .int)])], [], false, [(false, [.own 0])], [(0, .arr false .int)]⟩
noncomputable def c_impl_natSub : Con := ⟨sg_impl_natSub, List Int, fun x => M_impl_natSub x.1 x.2.1, fun r => (r, ())⟩
noncomputable def code_impl_natSub : Code := Try.f163.body.getD .skip
noncomputable def body_impl_natSub_0 : Code := (loopsIn code_impl_natSub).getD 0 .skip
noncomputable def D_impl_natSub_0 : LoopD := ⟨⟨mkSlots [(1, false, [.d (.sl .int)]), (5, false, [.own 2816]), (6, false, [.d (.int .i64)]), (12, false, [.d (.int .i64)]), (13, false, [.d (.int .i64)])] 43 0, [(2816, .arr false .int)]⟩, [], [(.exit 0, ⟨mkSlots [(5, false, [.own 2816])] 43 0, [(2816, .arr false .int)]⟩, [])]⟩
noncomputable def S_impl_natSub_0_w (x : Tys D_impl_natSub_0.head.ks) : Option (OutT D_impl_natSub_0.outs) := @whileO ((List Int) × Int × Int × Int × (List Int) × Unit) ((List Int) × Unit) S_impl_natSub_0 x
noncomputable def E_impl_natSub : Env := ⟨layD, [(121, c_impl_copyInts), (164, c_impl_trim_c)], [(4, mkLM D_impl_natSub_0 S_impl_natSub_0_w)], []⟩
theorem cons_impl_natSub : ConsOk Try.prog E_impl_natSub.cons := consOk_cons m_impl_copyInts (callable_of Try.func121 (by kernel_rfl)) (consOk_cons m_impl_trim_c (callable_of Try.func164 (by kernel_rfl)) (consOk_nil))
theorem S_impl_natSub_0_ok (x : Tys D_impl_natSub_0.head.ks) : stepL E_impl_natSub D_impl_natSub_0 body_impl_natSub_0 x = S_impl_natSub_0 x := by kernel_rfl
theorem loops_impl_natSub_0 : loopsIn body_impl_natSub_0 = [] := by kernel_rfl
theorem l_impl_natSub_0 : LoopOk Try.prog (mkLM D_impl_natSub_0 S_impl_natSub_0_w) body_impl_natSub_0 := loop_ok2 mix layD_ok cons_impl_natSub (by kernel_rfl) (loops_mem loops_impl_natSub_0 (trivial)) S_impl_natSub_0_ok fun _ _ h => h
theorem loops_impl_natSub : loopsIn code_impl_natSub = [body_impl_natSub_0] := by kernel_rfl
theorem m_impl_natSub : Meets Try.prog 163 c_impl_natSub := meets_of (E := E_impl_natSub) (code := code_impl_natSub) mix layD_ok cons_impl_natSub Try.func163 (by kernel_rfl) sg_impl_natSub (by kernel_rfl) (fun y => y.1) c_impl_natSub.out (fun _ => rfl) c_impl_natSub.run (fun x => by kernel_rfl) (by kernel_rfl) (loops_mem loops_impl_natSub (⟨⟨_, by kernel_rfl, l_impl_natSub_0⟩, trivial⟩))

noncomputable def sg_impl_bigAdd : Sig := ⟨[(true, [.d (.bool), .d (.sl .int)]), (true, [.d (.bool), .d (.sl .int)])], [], false, [(true, [.d (.bool), .own 0])], [(0, .arr false .int)]⟩
noncomputable def c_impl_bigAdd : Con := ⟨sg_impl_bigAdd, Bg, fun x => M_impl_bigAdd (⟨x.1, x.2.1⟩ : Bg) (⟨x.2.2.1, x.2.2.2.1⟩ : Bg), fun r => (r.neg, r.mag, ())⟩
noncomputable def code_impl_bigAdd : Code := Try.f126.body.getD .skip
noncomputable def E_impl_bigAdd : Env := ⟨layD, [(161, c_impl_natAdd), (160, c_impl_signed_dc), (162, c_impl_natCmp), (163, c_impl_natSub)], [], [(2, [(0, []), (1, []), (2, []), (3, []), (4, []), (5, []), (6, [3, 5, 2, 4]), (7, [1, 6, 0, 3, 5, 2, 4]), (8, [7, 0, 1, 2, 3, 4, 5, 6])]), (4, [(0, []), (1, []), (2, []), (3, []), (4, []), (5, []), (6, [3, 5, 2, 4]), (7, [1, 6, 0, 3, 5, 2, 4]), (8, [7, 0, 1, 2, 3, 4, 5, 6])]), (5, [(0, []), (1, []), (2, []), (3, []), (4, []), (5, []), (6, [3, 5, 2, 4]), (7, [1, 6, 0, 3, 5, 2, 4]), (8, [7, 0, 1, 2, 3, 4, 5, 6])])]⟩
theorem cons_impl_bigAdd : ConsOk Try.prog E_impl_bigAdd.cons := consOk_cons m_impl_natAdd (callable_of Try.func161 (by kernel_rfl)) (consOk_cons m_impl_signed_dc (callable_of Try.func160 (by kernel_rfl)) (consOk_cons m_impl_natCmp (callable_of Try.func162 (by kernel_rfl)) (consOk_cons m_impl_natSub (callable_of Try.func163 (by kernel_rfl)) (consOk_nil))))
theorem loops_impl_bigAdd : loopsIn code_impl_bigAdd = [] := by kernel_rfl
theorem m_impl_bigAdd : Meets Try.prog 126 c_impl_bigAdd := meets_of (E := E_impl_bigAdd) (code := code_impl_bigAdd) mix layD_ok cons_impl_bigAdd Try.func126 (by kernel_rfl) sg_impl_bigAdd (by kernel_rfl) (fun y => (⟨y.1, y.2.1⟩ : Bg)) c_impl_bigAdd.out (fun _ => rfl) c_impl_bigAdd.run (fun x => by kernel_rfl) (by kernel_rfl) (loops_mem loops_impl_bigAdd (trivial))

noncomputable def sg_impl_lowest_cc : Sig := ⟨[(true, [.d (.bool), .own 1]), (false, [.own 64])], [(1, .arr false .int), (64, .arr false .int)], false, [(true, [.d (.bool), .own 0, .own 1])], [(0, .arr false .int), (1, .arr false .int)]⟩
noncomputable def c_impl_lowest_cc : Con := ⟨sg_impl_lowest_cc, Rt, fun x => M_impl_lowest_cc (⟨x.1, x.2.1⟩ : Bg) x.2.2.1, fun r => (r.neg, r.mag, r.den, ())⟩
noncomputable def code_impl_lowest_cc : Code := Try.f125.body.getD .skip
noncomputable def E_impl_lowest_cc : Env := ⟨layD, [(158, c_impl_natGcd), (157, c_impl_isOne), (159, c_impl_natDiv), (160, c_impl_signed_dc)], [], []⟩
theorem cons_impl_lowest_cc : ConsOk Try.prog E_impl_lowest_cc.cons := consOk_cons m_impl_natGcd (callable_of Try.func158 (by kernel_rfl)) (consOk_cons m_impl_isOne (callable_of Try.func157 (by kernel_rfl)) (consOk_cons m_impl_natDiv (callable_of Try.func159 (by kernel_rfl)) (consOk_cons m_impl_signed_dc (callable_of Try.func160 (by kernel_rfl)) (consOk_nil))))
theorem loops_impl_lowest_cc : loopsIn code_impl_lowest_cc = [] := by kernel_rfl
theorem m_impl_lowest_cc : Meets Try.prog 125 c_impl_lowest_cc := meets_of (E := E_impl_lowest_cc) (code := code_impl_lowest_cc) mix layD_ok cons_impl_lowest_cc Try.func125 (by kernel_rfl) sg_impl_lowest_cc (by kernel_rfl) (fun y => (⟨y.1, y.2.1, y.2.2.1⟩ : Rt)) c_impl_lowest_cc.out (fun _ => rfl) c_impl_lowest_cc.run (fun x => by kernel_rfl) (by kernel_rfl) (loops_mem loops_impl_lowest_cc (trivial))

noncomputable def sg_impl_bigMul : Sig := ⟨[(true, [.d (.bool), .d (.sl .int)]), (true, [.d (.bool), .d (.sl .int)])], [], false, [(true, [.d (.bool), .own 0])], [(0, .arr false .int)]⟩
noncomputable def c_impl_bigMul : Con := ⟨sg_impl_bigMul, Bg, fun x => M_impl_bigMul (⟨x.1, x.2.1⟩ : Bg) (⟨x.2.2.1, x.2.2.2.1⟩ : Bg), fun r => (r.neg, r.mag, ())⟩
noncomputable def code_impl_bigMul : Code := Try.f127.body.getD .skip
noncomputable def E_impl_bigMul : Env := ⟨layD, [(128, c_impl_natMul), (160, c_impl_signed_dc)], [], [(1, [(0, []), (1, []), (2, []), (3, []), (4, []), (5, []), (6, []), (7, []), (8, []), (9, [6, 8, 5, 7]), (10, [4, 9, 1, 3, 6, 8, 0, 2, 5, 7]), (11, [10, 0, 1, 2, 3, 4, 5, 6, 7, 8, 9])])]⟩
theorem cons_impl_bigMul : ConsOk Try.prog E_impl_bigMul.cons := consOk_cons m_impl_natMul (callable_of Try.func128 (by kernel_rfl)) (consOk_cons m_impl_signed_dc (callable_of Try.func160 (by kernel_rfl)) (consOk_nil))
theorem loops_impl_bigMul : loopsIn code_impl_bigMul = [] := by kernel_rfl
theorem m_impl_bigMul : Meets Try.prog 127 c_impl_bigMul := meets_of (E := E_impl_bigMul) (code := code_impl_bigMul) mix layD_ok cons_impl_bigMul Try.func127 (by kernel_rfl) sg_impl_bigMul (by kernel_rfl) (fun y => (⟨y.1, y.2.1⟩ : Bg)) c_impl_bigMul.out (fun _ => rfl) c_impl_bigMul.run (fun x => by kernel_rfl) (by kernel_rfl) (loops_mem loops_impl_bigMul (trivial))

noncomputable def sg_impl_add : Sig := ⟨[(true, [.d (.bool), .d (.sl .int), .d (.sl .int)]), (true, [.d (.bool), .d (.sl .int), .d (.sl .int)])], [], false, [(true, [.d (.bool), .own 0, .own 1])], [(0, .arr false .int), (1, .arr false .int)]⟩
noncomputable def c_impl_add : Con := ⟨sg_impl_add, Rt, fun x => M_impl_add (⟨x.1, x.2.1, x.2.2.1⟩ : Rt) (⟨x.2.2.2.1, x.2.2.2.2.1, x.2.2.2.2.2.1⟩ : Rt), fun r => (r.neg, r.mag, r.den, ())⟩
noncomputable def code_impl_add : Code := Try.f88.body.getD .skip
noncomputable def E_impl_add : Env := ⟨layD, [(123, c_impl_void), (124, c_impl_sameInts), (126, c_impl_bigAdd), (121, c_impl_copyInts), (125, c_impl_lowest_cc), (127, c_impl_bigMul), (128, c_impl_natMul)], [], [(4, [(0, []), (1, []), (2, []), (3, []), (5, []), (6, []), (4, [1, 3, 0, 2]), (7, [6, 4, 5, 1, 3, 0, 2]), (8, [4, 7, 1, 3, 6, 0, 2, 5]), (9, [8, 0, 1, 2, 3, 4, 5, 6, 7])]), (7, [(0, []), (1, []), (3, []), (4, []), (5, []), (6, []), (2, [0, 1]), (7, [4, 6, 2, 3, 5, 0, 1]), (8, [2, 7, 0, 1, 4, 6, 3, 5]), (9, [8, 0, 1, 2, 3, 4, 5, 6, 7])])]⟩
theorem cons_impl_add : ConsOk Try.prog E_impl_add.cons := consOk_cons m_impl_void (callable_of Try.func123 (by kernel_rfl)) (consOk_cons m_impl_sameInts (callable_of Try.func124 (by kernel_rfl)) (consOk_cons m_impl_bigAdd (callable_of Try.func126 (by kernel_rfl)) (consOk_cons m_impl_copyInts (callable_of Try.func121 (by kernel_rfl)) (consOk_cons m_impl_lowest_cc (callable_of Try.func125 (by kernel_rfl)) (consOk_cons m_impl_bigMul (callable_of Try.func127 (by kernel_rfl)) (consOk_cons m_impl_natMul (callable_of Try.func128 (by kernel_rfl)) (consOk_nil)))))))
theorem loops_impl_add : loopsIn code_impl_add = [] := by kernel_rfl
theorem m_impl_add : Meets Try.prog 88 c_impl_add := meets_of (E := E_impl_add) (code := code_impl_add) mix layD_ok cons_impl_add Try.func88 (by kernel_rfl) sg_impl_add (by kernel_rfl) (fun y => (⟨y.1, y.2.1, y.2.2.1⟩ : Rt)) c_impl_add.out (fun _ => rfl) c_impl_add.run (fun x => by kernel_rfl) (by kernel_rfl) (loops_mem loops_impl_add (trivial))

noncomputable def sg_impl_given_c : Sig := ⟨[(true, [.d (.bool), .own 1, .own 2])], [(1, .arr false .int), (2, .arr false .int)], true, [(true, [.d (.bool), .own 0, .own 1]), (false, [.d (.bool)])], [(0, .arr false .int), (1, .arr false .int)]⟩
noncomputable def c_impl_given_c : Con := ⟨sg_impl_given_c, Rt × Bool, fun x => M_impl_given_c (⟨x.1, x.2.1, x.2.2.1⟩ : Rt), fun r => (r.1.neg, r.2, r.1.mag, r.1.den, ())⟩
noncomputable def code_impl_given_c : Code := Try.f89.body.getD .skip
noncomputable def E_impl_given_c : Env := ⟨layD, [(123, c_impl_void)], [], []⟩
theorem cons_impl_given_c : ConsOk Try.prog E_impl_given_c.cons := consOk_cons m_impl_void (callable_of Try.func123 (by kernel_rfl)) (consOk_nil)
theorem loops_impl_given_c : loopsIn code_impl_given_c = [] := by kernel_rfl
theorem m_impl_given_c : Meets Try.prog 89 c_impl_given_c := meets_of (E := E_impl_given_c) (code := code_impl_given_c) mix layD_ok cons_impl_given_c Try.func89 (by kernel_rfl) sg_impl_given_c (by kernel_rfl) (fun y => ((⟨y.1, y.2.2.1, y.2.2.2.1⟩ : Rt), y.2.1)) c_impl_given_c.out (fun _ => rfl) c_impl_given_c.run (fun x => by kernel_rfl) (by kernel_rfl) (loops_mem loops_impl_given_c (trivial))

noncomputable def sg_impl_TraceOf : Sig := ⟨[(true, [.d (.int .i64), .d (.int .i64), .d (.sl .rat)])], [], true, [(true, [.d (.bool), .own 0, .own 1]), (false, [.d (.bool)])], [(0, .arr false .int), (1, .arr false .int)]⟩
noncomputable def c_impl_TraceOf : Con := ⟨sg_impl_TraceOf, Rt × Bool, fun x => M_impl_TraceOf (⟨x.1, x.2.1, x.2.2.1⟩ : Mx), fun r => (r.1.neg, r.2, r.1.mag, r.1.den, ())⟩
noncomputable def code_impl_TraceOf : Code := Try.f43.body.getD .skip
noncomputable def body_impl_TraceOf_0 : Code := (loopsIn code_impl_TraceOf).getD 0 .skip
noncomputable def D_impl_TraceOf_0 : LoopD := ⟨⟨mkSlots [(1, false, [.lp 64 0]), (2, false, [.lp 128 0]), (4, false, [.lp 256 0]), (19, false, [.d (.int .i64)]), (20, false, [.d (.int .i64)])] 34 0, [(64, .box [.d (.int .i64), .d (.int .i64), .d (.sl .rat)]), (128, .box [.d (.bool), .d (.sl .int), .d (.sl .int)]), (256, .box [.d (.bool), .own 2240, .own 2304]), (2240, .arr false .int), (2304, .arr false .int)]⟩, [], [(.exit 0, ⟨mkSlots [(2, false, [.lp 128 0]), (4, false, [.lp 256 0])] 34 0, [(128, .box [.d (.bool), .d (.sl .int), .d (.sl .int)]), (256, .box [.d (.bool), .own 2240, .own 2304]), (2240, .arr false .int), (2304, .arr false .int)]⟩, [])]⟩
noncomputable def S_impl_TraceOf_0_w (x : Tys D_impl_TraceOf_0.head.ks) : Option (OutT D_impl_TraceOf_0.outs) := @whileO (Int × Int × Int × Int × (List Rt) × Bool × (List Int) × (List Int) × Bool × (List Int) × (List Int) × Unit) (Bool × (List Int) × (List Int) × Bool × (List Int) × (List Int) × Unit) S_impl_TraceOf_0 x
noncomputable def E_impl_TraceOf : Env := ⟨layD, [(76, c_impl_MatrixOk), (72, c_impl_whole), (78, c_impl_Matrix_at), (88, c_impl_add), (89, c_impl_given_c)], [(5, mkLM D_impl_TraceOf_0 S_impl_TraceOf_0_w)], [(7, [(0, []), (1, []), (2, []), (3, []), (4, [1, 2, 3]), (5, [0, 4, 1, 2, 3]), (6, [5, 0, 1, 2, 3, 4])])]⟩
theorem cons_impl_TraceOf : ConsOk Try.prog E_impl_TraceOf.cons := consOk_cons m_impl_MatrixOk (callable_of Try.func76 (by kernel_rfl)) (consOk_cons m_impl_whole (callable_of Try.func72 (by kernel_rfl)) (consOk_cons m_impl_Matrix_at (callable_of Try.func78 (by kernel_rfl)) (consOk_cons m_impl_add (callable_of Try.func88 (by kernel_rfl)) (consOk_cons m_impl_given_c (callable_of Try.func89 (by kernel_rfl)) (consOk_nil)))))
theorem S_impl_TraceOf_0_ok (x : Tys D_impl_TraceOf_0.head.ks) : stepL E_impl_TraceOf D_impl_TraceOf_0 body_impl_TraceOf_0 x = S_impl_TraceOf_0 x := by kernel_rfl
theorem loops_impl_TraceOf_0 : loopsIn body_impl_TraceOf_0 = [] := by kernel_rfl
theorem l_impl_TraceOf_0 : LoopOk Try.prog (mkLM D_impl_TraceOf_0 S_impl_TraceOf_0_w) body_impl_TraceOf_0 := loop_ok2 mix layD_ok cons_impl_TraceOf (by kernel_rfl) (loops_mem loops_impl_TraceOf_0 (trivial)) S_impl_TraceOf_0_ok fun _ _ h => h
theorem loops_impl_TraceOf : loopsIn code_impl_TraceOf = [body_impl_TraceOf_0] := by kernel_rfl
theorem m_impl_TraceOf : Meets Try.prog 43 c_impl_TraceOf := meets_of (E := E_impl_TraceOf) (code := code_impl_TraceOf) mix layD_ok cons_impl_TraceOf Try.func43 (by kernel_rfl) sg_impl_TraceOf (by kernel_rfl) (fun y => ((⟨y.1, y.2.2.1, y.2.2.2.1⟩ : Rt), y.2.1)) c_impl_TraceOf.out (fun _ => rfl) c_impl_TraceOf.run (fun x => by kernel_rfl) (by kernel_rfl) (loops_mem loops_impl_TraceOf (⟨⟨_, by kernel_rfl, l_impl_TraceOf_0⟩, trivial⟩))

noncomputable def sg_laws_eqIntS : Sig := ⟨[(false, [.d (.sl .int)]), (false, [.d (.sl .int)])], [], false, [(false, [.d (.bool)])], []⟩
noncomputable def c_laws_eqIntS : Con := ⟨sg_laws_eqIntS, Bool, fun x => M_laws_eqIntS x.1 x.2.1, fun r => (r, ())⟩
noncomputable def code_laws_eqIntS : Code := Try.f19.body.getD .skip
noncomputable def body_laws_eqIntS_0 : Code := (loopsIn code_laws_eqIntS).getD 0 .skip
noncomputable def D_laws_eqIntS_0 : LoopD := ⟨⟨mkSlots [(0, false, [.d (.sl .int)]), (1, false, [.d (.sl .int)]), (5, false, [.d (.int .i64)])] 26 0, []⟩, [], [(.ret, ⟨mkSlots [(4, false, [.d (.bool)])] 26 0, []⟩, []), (.exit 0, ⟨mkSlots [] 26 0, []⟩, [])]⟩
noncomputable def S_laws_eqIntS_0_w (x : Tys D_laws_eqIntS_0.head.ks) : Option (OutT D_laws_eqIntS_0.outs) := @whileO ((List Int) × (List Int) × Int × Unit) ((Bool × Unit) ⊕ (Unit)) S_laws_eqIntS_0 x
noncomputable def E_laws_eqIntS : Env := ⟨layD, [], [(4, mkLM D_laws_eqIntS_0 S_laws_eqIntS_0_w)], [(6, [(0, []), (1, []), (2, []), (3, []), (4, []), (5, []), (6, []), (7, []), (8, [])])]⟩
theorem cons_laws_eqIntS : ConsOk Try.prog E_laws_eqIntS.cons := consOk_nil
theorem S_laws_eqIntS_0_ok (x : Tys D_laws_eqIntS_0.head.ks) : stepL E_laws_eqIntS D_laws_eqIntS_0 body_laws_eqIntS_0 x = S_laws_eqIntS_0 x := by kernel_rfl
theorem loops_laws_eqIntS_0 : loopsIn body_laws_eqIntS_0 = [] := by kernel_rfl
theorem l_laws_eqIntS_0 : LoopOk Try.prog (mkLM D_laws_eqIntS_0 S_laws_eqIntS_0_w) body_laws_eqIntS_0 := loop_ok2 mix layD_ok cons_laws_eqIntS (by kernel_rfl) (loops_mem loops_laws_eqIntS_0 (trivial)) S_laws_eqIntS_0_ok fun _ _ h => h
theorem loops_laws_eqIntS : loopsIn code_laws_eqIntS = [body_laws_eqIntS_0] := by kernel_rfl
theorem m_laws_eqIntS : Meets Try.prog 19 c_laws_eqIntS := meets_of (E := E_laws_eqIntS) (code := code_laws_eqIntS) mix layD_ok cons_laws_eqIntS Try.func19 (by kernel_rfl) sg_laws_eqIntS (by kernel_rfl) (fun y => y.1) c_laws_eqIntS.out (fun _ => rfl) c_laws_eqIntS.run (fun x => by kernel_rfl) (by kernel_rfl) (loops_mem loops_laws_eqIntS (⟨⟨_, by kernel_rfl, l_laws_eqIntS_0⟩, trivial⟩))

noncomputable def sg_laws_eqBigInt : Sig := ⟨[(true, [.d (.bool), .d (.sl .int)]), (true, [.d (.bool), .d (.sl .int)])], [], false, [(false, [.d (.bool)])], []⟩
noncomputable def c_laws_eqBigInt : Con := ⟨sg_laws_eqBigInt, Bool, fun x => M_laws_eqBigInt (⟨x.1, x.2.1⟩ : Bg) (⟨x.2.2.1, x.2.2.2.1⟩ : Bg), fun r => (r, ())⟩
noncomputable def code_laws_eqBigInt : Code := Try.f79.body.getD .skip
noncomputable def E_laws_eqBigInt : Env := ⟨layD, [(19, c_laws_eqIntS)], [], []⟩
theorem cons_laws_eqBigInt : ConsOk Try.prog E_laws_eqBigInt.cons := consOk_cons m_laws_eqIntS (callable_of Try.func19 (by kernel_rfl)) (consOk_nil)
theorem loops_laws_eqBigInt : loopsIn code_laws_eqBigInt = [] := by kernel_rfl
theorem m_laws_eqBigInt : Meets Try.prog 79 c_laws_eqBigInt := meets_of (E := E_laws_eqBigInt) (code := code_laws_eqBigInt) mix layD_ok cons_laws_eqBigInt Try.func79 (by kernel_rfl) sg_laws_eqBigInt (by kernel_rfl) (fun y => y.1) c_laws_eqBigInt.out (fun _ => rfl) c_laws_eqBigInt.run (fun x => by kernel_rfl) (by kernel_rfl) (loops_mem loops_laws_eqBigInt (trivial))

noncomputable def sg_laws_eqRat : Sig := ⟨[(true, [.d (.bool), .d (.sl .int), .d (.sl .int)]), (true, [.d (.bool), .d (.sl .int), .d (.sl .int)])], [], false, [(false, [.d (.bool)])], []⟩
noncomputable def c_laws_eqRat : Con := ⟨sg_laws_eqRat, Bool, fun x => M_laws_eqRat (⟨x.1, x.2.1, x.2.2.1⟩ : Rt) (⟨x.2.2.2.1, x.2.2.2.2.1, x.2.2.2.2.2.1⟩ : Rt), fun r => (r, ())⟩
noncomputable def code_laws_eqRat : Code := Try.f37.body.getD .skip
noncomputable def E_laws_eqRat : Env := ⟨layD, [(79, c_laws_eqBigInt), (19, c_laws_eqIntS)], [], []⟩
theorem cons_laws_eqRat : ConsOk Try.prog E_laws_eqRat.cons := consOk_cons m_laws_eqBigInt (callable_of Try.func79 (by kernel_rfl)) (consOk_cons m_laws_eqIntS (callable_of Try.func19 (by kernel_rfl)) (consOk_nil))
theorem loops_laws_eqRat : loopsIn code_laws_eqRat = [] := by kernel_rfl
theorem m_laws_eqRat : Meets Try.prog 37 c_laws_eqRat := meets_of (E := E_laws_eqRat) (code := code_laws_eqRat) mix layD_ok cons_laws_eqRat Try.func37 (by kernel_rfl) sg_laws_eqRat (by kernel_rfl) (fun y => y.1) c_laws_eqRat.out (fun _ => rfl) c_laws_eqRat.run (fun x => by kernel_rfl) (by kernel_rfl) (loops_mem loops_laws_eqRat (trivial))

noncomputable def sg_laws_eqRatS : Sig := ⟨[(false, [.d (.sl .rat)]), (false, [.d (.sl .rat)])], [], false, [(false, [.d (.bool)])], []⟩
noncomputable def c_laws_eqRatS : Con := ⟨sg_laws_eqRatS, Bool, fun x => M_laws_eqRatS x.1 x.2.1, fun r => (r, ())⟩
noncomputable def code_laws_eqRatS : Code := Try.f32.body.getD .skip
noncomputable def body_laws_eqRatS_0 : Code := (loopsIn code_laws_eqRatS).getD 0 .skip
noncomputable def D_laws_eqRatS_0 : LoopD := ⟨⟨mkSlots [(0, false, [.d (.sl .rat)]), (1, false, [.d (.sl .rat)]), (5, false, [.d (.int .i64)])] 27 0, []⟩, [], [(.ret, ⟨mkSlots [(4, false, [.d (.bool)])] 27 0, []⟩, []), (.exit 0, ⟨mkSlots [] 27 0, []⟩, [])]⟩
noncomputable def S_laws_eqRatS_0_w (x : Tys D_laws_eqRatS_0.head.ks) : Option (OutT D_laws_eqRatS_0.outs) := @whileO ((List Rt) × (List Rt) × Int × Unit) ((Bool × Unit) ⊕ (Unit)) S_laws_eqRatS_0 x
noncomputable def E_laws_eqRatS : Env := ⟨layD, [(37, c_laws_eqRat)], [(4, mkLM D_laws_eqRatS_0 S_laws_eqRatS_0_w)], [(6, [(0, []), (1, []), (2, []), (3, []), (4, []), (5, []), (6, []), (7, []), (8, [3, 7, 2, 6, 0, 1, 4, 5]), (9, [])])]⟩
theorem cons_laws_eqRatS : ConsOk Try.prog E_laws_eqRatS.cons := consOk_cons m_laws_eqRat (callable_of Try.func37 (by kernel_rfl)) (consOk_nil)
theorem S_laws_eqRatS_0_ok (x : Tys D_laws_eqRatS_0.head.ks) : stepL E_laws_eqRatS D_laws_eqRatS_0 body_laws_eqRatS_0 x = S_laws_eqRatS_0 x := by kernel_rfl
theorem loops_laws_eqRatS_0 : loopsIn body_laws_eqRatS_0 = [] := by kernel_rfl
theorem l_laws_eqRatS_0 : LoopOk Try.prog (mkLM D_laws_eqRatS_0 S_laws_eqRatS_0_w) body_laws_eqRatS_0 := loop_ok2 mix layD_ok cons_laws_eqRatS (by kernel_rfl) (loops_mem loops_laws_eqRatS_0 (trivial)) S_laws_eqRatS_0_ok fun _ _ h => h
theorem loops_laws_eqRatS : loopsIn code_laws_eqRatS = [body_laws_eqRatS_0] := by kernel_rfl
theorem m_laws_eqRatS : Meets Try.prog 32 c_laws_eqRatS := meets_of (E := E_laws_eqRatS) (code := code_laws_eqRatS) mix layD_ok cons_laws_eqRatS Try.func32 (by kernel_rfl) sg_laws_eqRatS (by kernel_rfl) (fun y => y.1) c_laws_eqRatS.out (fun _ => rfl) c_laws_eqRatS.run (fun x => by kernel_rfl) (by kernel_rfl) (loops_mem loops_laws_eqRatS (⟨⟨_, by kernel_rfl, l_laws_eqRatS_0⟩, trivial⟩))

noncomputable def sg_laws_eqMatrix : Sig := ⟨[(true, [.d (.int .i64), .d (.int .i64), .d (.sl .rat)]), (true, [.d (.int .i64), .d (.int .i64), .d (.sl .rat)])], [], false, [(false, [.d (.bool)])], []⟩
noncomputable def c_laws_eqMatrix : Con := ⟨sg_laws_eqMatrix, Bool, fun x => M_laws_eqMatrix (⟨x.1, x.2.1, x.2.2.1⟩ : Mx) (⟨x.2.2.2.1, x.2.2.2.2.1, x.2.2.2.2.2.1⟩ : Mx), fun r => (r, ())⟩
noncomputable def code_laws_eqMatrix : Code := Try.f25.body.getD .skip
noncomputable def E_laws_eqMatrix : Env := ⟨layD, [(32, c_laws_eqRatS)], [], []⟩
theorem cons_laws_eqMatrix : ConsOk Try.prog E_laws_eqMatrix.cons := consOk_cons m_laws_eqRatS (callable_of Try.func32 (by kernel_rfl)) (consOk_nil)
theorem loops_laws_eqMatrix : loopsIn code_laws_eqMatrix = [] := by kernel_rfl
theorem m_laws_eqMatrix : Meets Try.prog 25 c_laws_eqMatrix := meets_of (E := E_laws_eqMatrix) (code := code_laws_eqMatrix) mix layD_ok cons_laws_eqMatrix Try.func25 (by kernel_rfl) sg_laws_eqMatrix (by kernel_rfl) (fun y => y.1) c_laws_eqMatrix.out (fun _ => rfl) c_laws_eqMatrix.run (fun x => by kernel_rfl) (by kernel_rfl) (loops_mem loops_laws_eqMatrix (trivial))

noncomputable def sg_laws_markIntS_md : Sig := ⟨[(false, [.own 63]), (false, [.d (.int .i64)])], [(63, .arr false .int)], false, [(false, [.d (.int .i64)])], [(63, .arr false .int)]⟩
noncomputable def c_laws_markIntS_md : Con := ⟨sg_laws_markIntS_md, Int × List Int, fun x => M_laws_markIntS_md x.2.1 x.1, fun r => (r.1, r.2, ())⟩
noncomputable def code_laws_markIntS_md : Code := Try.f21.body.getD .skip
noncomputable def body_laws_markIntS_md_0 : Code := (loopsIn code_laws_markIntS_md).getD 0 .skip
noncomputable def D_laws_markIntS_md_0 : LoopD := ⟨⟨mkSlots [(0, false, [.own 63]), (1, false, [.d (.int .i64)]), (5, false, [.d (.int .i64)])] 19 0, [(63, .arr false .int)]⟩, [], [(.exit 0, ⟨mkSlots [(1, false, [.d (.int .i64)])] 19 0, [(63, .arr false .int)]⟩, [])]⟩
noncomputable def S_laws_markIntS_md_0_w (x : Tys D_laws_markIntS_md_0.head.ks) : Option (OutT D_laws_markIntS_md_0.outs) := @whileO (Int × Int × (List Int) × Unit) (Int × (List Int) × Unit) S_laws_markIntS_md_0 x
noncomputable def E_laws_markIntS_md : Env := ⟨layD, [], [(2, mkLM D_laws_markIntS_md_0 S_laws_markIntS_md_0_w)], []⟩
theorem cons_laws_markIntS_md : ConsOk Try.prog E_laws_markIntS_md.cons := consOk_nil
theorem S_laws_markIntS_md_0_ok (x : Tys D_laws_markIntS_md_0.head.ks) : stepL E_laws_markIntS_md D_laws_markIntS_md_0 body_laws_markIntS_md_0 x = S_laws_markIntS_md_0 x := by kernel_rfl
theorem loops_laws_markIntS_md_0 : loopsIn body_laws_markIntS_md_0 = [] := by kernel_rfl
theorem l_laws_markIntS_md_0 : LoopOk Try.prog (mkLM D_laws_markIntS_md_0 S_laws_markIntS_md_0_w) body_laws_markIntS_md_0 := loop_ok2 mix layD_ok cons_laws_markIntS_md (by kernel_rfl) (loops_mem loops_laws_markIntS_md_0 (trivial)) S_laws_markIntS_md_0_ok fun _ _ h => h
theorem loops_laws_markIntS_md : loopsIn code_laws_markIntS_md = [body_laws_markIntS_md_0] := by kernel_rfl
theorem m_laws_markIntS_md : Meets Try.prog 21 c_laws_markIntS_md := meets_of (E := E_laws_markIntS_md) (code := code_laws_markIntS_md) mix layD_ok cons_laws_markIntS_md Try.func21 (by kernel_rfl) sg_laws_markIntS_md (by kernel_rfl) (fun y => (y.1, y.2.1)) c_laws_markIntS_md.out (fun _ => rfl) c_laws_markIntS_md.run (fun x => by kernel_rfl) (by kernel_rfl) (loops_mem loops_laws_markIntS_md (⟨⟨_, by kernel_rfl, l_laws_markIntS_md_0⟩, trivial⟩))

noncomputable def sg_laws_markRatS_md : Sig := ⟨[(false, [.dp 63]), (false, [.d (.int .i64)])], [(63, .deep .rat)], false, [(false, [.d (.int .i64)])], [(63, .deep .rat)]⟩
noncomputable def c_laws_markRatS_md : Con := ⟨sg_laws_markRatS_md, Int × List Rt, fun x => M_laws_markRatS_md x.2.1 x.1, fun r => (r.1, r.2, ())⟩
noncomputable def code_laws_markRatS_md : Code := Try.f33.body.getD .skip
noncomputable def body_laws_markRatS_md_0 : Code := (loopsIn code_laws_markRatS_md).getD 0 .skip
noncomputable def D_laws_markRatS_md_0 : LoopD := ⟨⟨mkSlots [(0, false, [.dp 63]), (1, false, [.d (.int .i64)]), (5, false, [.d (.int .i64)])] 38 0, [(63, .deep .rat)]⟩, [], [(.exit 0, ⟨mkSlots [(1, false, [.d (.int .i64)])] 38 0, [(63, .deep .rat)]⟩, [])]⟩
noncomputable def S_laws_markRatS_md_0_w (x : Tys D_laws_markRatS_md_0.head.ks) : Option (OutT D_laws_markRatS_md_0.outs) := @whileO (Int × Int × (List Rt) × Unit) (Int × (List Rt) × Unit) S_laws_markRatS_md_0 x
noncomputable def E_laws_markRatS_md : Env := ⟨layD, [(21, c_laws_markIntS_md)], [(2, mkLM D_laws_markRatS_md_0 S_laws_markRatS_md_0_w)], []⟩
theorem cons_laws_markRatS_md : ConsOk Try.prog E_laws_markRatS_md.cons := consOk_cons m_laws_markIntS_md (callable_of Try.func21 (by kernel_rfl)) (consOk_nil)
theorem S_laws_markRatS_md_0_ok (x : Tys D_laws_markRatS_md_0.head.ks) : stepL E_laws_markRatS_md D_laws_markRatS_md_0 body_laws_markRatS_md_0 x = S_laws_markRatS_md_0 x := by kernel_rfl
theorem loops_laws_markRatS_md_0 : loopsIn body_laws_markRatS_md_0 = [] := by kernel_rfl
theorem l_laws_markRatS_md_0 : LoopOk Try.prog (mkLM D_laws_markRatS_md_0 S_laws_markRatS_md_0_w) body_laws_markRatS_md_0 := loop_ok2 mix layD_ok cons_laws_markRatS_md (by kernel_rfl) (loops_mem loops_laws_markRatS_md_0 (trivial)) S_laws_markRatS_md_0_ok fun _ _ h => h
theorem loops_laws_markRatS_md : loopsIn code_laws_markRatS_md = [body_laws_markRatS_md_0] := by kernel_rfl
theorem m_laws_markRatS_md : Meets Try.prog 33 c_laws_markRatS_md := meets_of (E := E_laws_markRatS_md) (code := code_laws_markRatS_md) mix layD_ok cons_laws_markRatS_md Try.func33 (by kernel_rfl) sg_laws_markRatS_md (by kernel_rfl) (fun y => (y.1, y.2.1)) c_laws_markRatS_md.out (fun _ => rfl) c_laws_markRatS_md.run (fun x => by kernel_rfl) (by kernel_rfl) (loops_mem loops_laws_markRatS_md (⟨⟨_, by kernel_rfl, l_laws_markRatS_md_0⟩, trivial⟩))

noncomputable def sg_laws_markMatrix_md : Sig := ⟨[(true, [.d (.int .i64), .d (.int .i64), .dp 191]), (false, [.d (.int .i64)])], [(191, .deep .rat)], false, [(false, [.d (.int .i64)])], [(191, .deep .rat)]⟩
noncomputable def c_laws_markMatrix_md : Con := ⟨sg_laws_markMatrix_md, Int × List Rt, fun x => M_laws_markMatrix_md (⟨x.1, x.2.1, x.2.2.2.1⟩ : Mx) x.2.2.1, fun r => (r.1, r.2, ())⟩
noncomputable def code_laws_markMatrix_md : Code := Try.f26.body.getD .skip
noncomputable def E_laws_markMatrix_md : Env := ⟨layD, [(33, c_laws_markRatS_md)], [], []⟩
theorem cons_laws_markMatrix_md : ConsOk Try.prog E_laws_markMatrix_md.cons := consOk_cons m_laws_markRatS_md (callable_of Try.func33 (by kernel_rfl)) (consOk_nil)
theorem loops_laws_markMatrix_md : loopsIn code_laws_markMatrix_md = [] := by kernel_rfl
theorem m_laws_markMatrix_md : Meets Try.prog 26 c_laws_markMatrix_md := meets_of (E := E_laws_markMatrix_md) (code := code_laws_markMatrix_md) mix layD_ok cons_laws_markMatrix_md Try.func26 (by kernel_rfl) sg_laws_markMatrix_md (by kernel_rfl) (fun y => (y.1, y.2.1)) c_laws_markMatrix_md.out (fun _ => rfl) c_laws_markMatrix_md.run (fun x => by kernel_rfl) (by kernel_rfl) (loops_mem loops_laws_markMatrix_md (trivial))

noncomputable def sg_laws_markBigInt_md : Sig := ⟨[(true, [.d (.bool), .own 127]), (false, [.d (.int .i64)])], [(127, .arr false .int)], false, [(false, [.d (.int .i64)])], [(127, .arr false .int)]⟩
noncomputable def c_laws_markBigInt_md : Con := ⟨sg_laws_markBigInt_md, Int × List Int, fun x => M_laws_markBigInt_md (⟨x.1, x.2.2.1⟩ : Bg) x.2.1, fun r => (r.1, r.2, ())⟩
noncomputable def code_laws_markBigInt_md : Code := Try.f80.body.getD .skip
noncomputable def E_laws_markBigInt_md : Env := ⟨layD, [(21, c_laws_markIntS_md)], [], []⟩
theorem cons_laws_markBigInt_md : ConsOk Try.prog E_laws_markBigInt_md.cons := consOk_cons m_laws_markIntS_md (callable_of Try.func21 (by kernel_rfl)) (consOk_nil)
theorem loops_laws_markBigInt_md : loopsIn code_laws_markBigInt_md = [] := by kernel_rfl
theorem m_laws_markBigInt_md : Meets Try.prog 80 c_laws_markBigInt_md := meets_of (E := E_laws_markBigInt_md) (code := code_laws_markBigInt_md) mix layD_ok cons_laws_markBigInt_md Try.func80 (by kernel_rfl) sg_laws_markBigInt_md (by kernel_rfl) (fun y => (y.1, y.2.1)) c_laws_markBigInt_md.out (fun _ => rfl) c_laws_markBigInt_md.run (fun x => by kernel_rfl) (by kernel_rfl) (loops_mem loops_laws_markBigInt_md (trivial))

noncomputable def sg_laws_markRat_md : Sig := ⟨[(true, [.d (.bool), .own 127, .own 191]), (false, [.d (.int .i64)])], [(127, .arr false .int), (191, .arr false .int)], false, [(false, [.d (.int .i64)])], [(127, .arr false .int), (191, .arr false .int)]⟩
noncomputable def c_laws_markRat_md : Con := ⟨sg_laws_markRat_md, Int × List Int × List Int, fun x => M_laws_markRat_md (⟨x.1, x.2.2.1, x.2.2.2.1⟩ : Rt) x.2.1, fun r => (r.1, r.2.1, r.2.2, ())⟩
noncomputable def code_laws_markRat_md : Code := Try.f38.body.getD .skip
noncomputable def E_laws_markRat_md : Env := ⟨layD, [(80, c_laws_markBigInt_md), (21, c_laws_markIntS_md)], [], []⟩
theorem cons_laws_markRat_md : ConsOk Try.prog E_laws_markRat_md.cons := consOk_cons m_laws_markBigInt_md (callable_of Try.func80 (by kernel_rfl)) (consOk_cons m_laws_markIntS_md (callable_of Try.func21 (by kernel_rfl)) (consOk_nil))
theorem loops_laws_markRat_md : loopsIn code_laws_markRat_md = [] := by kernel_rfl
theorem m_laws_markRat_md : Meets Try.prog 38 c_laws_markRat_md := meets_of (E := E_laws_markRat_md) (code := code_laws_markRat_md) mix layD_ok cons_laws_markRat_md Try.func38 (by kernel_rfl) sg_laws_markRat_md (by kernel_rfl) (fun y => (y.1, y.2.1, y.2.2.1)) c_laws_markRat_md.out (fun _ => rfl) c_laws_markRat_md.run (fun x => by kernel_rfl) (by kernel_rfl) (loops_mem loops_laws_markRat_md (trivial))

noncomputable def sg_laws_heldIntS : Sig := ⟨[(false, [.d (.sl .int)]), (false, [.d (.int .i64)])], [], false, [(false, [.d (.int .i64)])], []⟩
noncomputable def c_laws_heldIntS : Con := ⟨sg_laws_heldIntS, Int, fun x => M_laws_heldIntS x.1 x.2.1, fun r => (r, ())⟩
noncomputable def code_laws_heldIntS : Code := Try.f68.body.getD .skip
noncomputable def body_laws_heldIntS_0 : Code := (loopsIn code_laws_heldIntS).getD 0 .skip
noncomputable def D_laws_heldIntS_0 : LoopD := ⟨⟨mkSlots [(0, false, [.d (.sl .int)]), (1, false, [.d (.int .i64)]), (5, false, [.d (.int .i64)])] 21 0, []⟩, [], [(.ret, ⟨mkSlots [(4, false, [.d (.int .i64)])] 21 0, []⟩, []), (.exit 0, ⟨mkSlots [(1, false, [.d (.int .i64)])] 21 0, []⟩, [])]⟩
noncomputable def S_laws_heldIntS_0_w (x : Tys D_laws_heldIntS_0.head.ks) : Option (OutT D_laws_heldIntS_0.outs) := @whileO ((List Int) × Int × Int × Unit) ((Int × Unit) ⊕ (Int × Unit)) S_laws_heldIntS_0 x
noncomputable def E_laws_heldIntS : Env := ⟨layD, [], [(2, mkLM D_laws_heldIntS_0 S_laws_heldIntS_0_w)], []⟩
theorem cons_laws_heldIntS : ConsOk Try.prog E_laws_heldIntS.cons := consOk_nil
theorem S_laws_heldIntS_0_ok (x : Tys D_laws_heldIntS_0.head.ks) : stepL E_laws_heldIntS D_laws_heldIntS_0 body_laws_heldIntS_0 x = S_laws_heldIntS_0 x := by kernel_rfl
theorem loops_laws_heldIntS_0 : loopsIn body_laws_heldIntS_0 = [] := by kernel_rfl
theorem l_laws_heldIntS_0 : LoopOk Try.prog (mkLM D_laws_heldIntS_0 S_laws_heldIntS_0_w) body_laws_heldIntS_0 := loop_ok2 mix layD_ok cons_laws_heldIntS (by kernel_rfl) (loops_mem loops_laws_heldIntS_0 (trivial)) S_laws_heldIntS_0_ok fun _ _ h => h
theorem loops_laws_heldIntS : loopsIn code_laws_heldIntS = [body_laws_heldIntS_0] := by kernel_rfl
theorem m_laws_heldIntS : Meets Try.prog 68 c_laws_heldIntS := meets_of (E := E_laws_heldIntS) (code := code_laws_heldIntS) mix layD_ok cons_laws_heldIntS Try.func68 (by kernel_rfl) sg_laws_heldIntS (by kernel_rfl) (fun y => y.1) c_laws_heldIntS.out (fun _ => rfl) c_laws_heldIntS.run (fun x => by kernel_rfl) (by kernel_rfl) (loops_mem loops_laws_heldIntS (⟨⟨_, by kernel_rfl, l_laws_heldIntS_0⟩, trivial⟩))

noncomputable def sg_laws_heldBigInt : Sig := ⟨[(true, [.d (.bool), .d (.sl .int)]), (false, [.d (.int .i64)])], [], false, [(false, [.d (.int .i64)])], []⟩
noncomputable def c_laws_heldBigInt : Con := ⟨sg_laws_heldBigInt, Int, fun x => M_laws_heldBigInt (⟨x.1, x.2.1⟩ : Bg) x.2.2.1, fun r => (r, ())⟩
noncomputable def code_laws_heldBigInt : Code := Try.f81.body.getD .skip
noncomputable def E_laws_heldBigInt : Env := ⟨layD, [(68, c_laws_heldIntS)], [], []⟩
theorem cons_laws_heldBigInt : ConsOk Try.prog E_laws_heldBigInt.cons := consOk_cons m_laws_heldIntS (callable_of Try.func68 (by kernel_rfl)) (consOk_nil)
theorem loops_laws_heldBigInt : loopsIn code_laws_heldBigInt = [] := by kernel_rfl
theorem m_laws_heldBigInt : Meets Try.prog 81 c_laws_heldBigInt := meets_of (E := E_laws_heldBigInt) (code := code_laws_heldBigInt) mix layD_ok cons_laws_heldBigInt Try.func81 (by kernel_rfl) sg_laws_heldBigInt (by kernel_rfl) (fun y => y.1) c_laws_heldBigInt.out (fun _ => rfl) c_laws_heldBigInt.run (fun x => by kernel_rfl) (by kernel_rfl) (loops_mem loops_laws_heldBigInt (trivial))

noncomputable def sg_laws_heldRat : Sig := ⟨[(true, [.d (.bool), .d (.sl .int), .d (.sl .int)]), (false, [.d (.int .i64)])], [], false, [(false, [.d (.int .i64)])], []⟩
noncomputable def c_laws_heldRat : Con := ⟨sg_laws_heldRat, Int, fun x => M_laws_heldRat (⟨x.1, x.2.1, x.2.2.1⟩ : Rt) x.2.2.2.1, fun r => (r, ())⟩
noncomputable def code_laws_heldRat : Code := Try.f39.body.getD .skip
noncomputable def E_laws_heldRat : Env := ⟨layD, [(81, c_laws_heldBigInt), (68, c_laws_heldIntS)], [], []⟩
theorem cons_laws_heldRat : ConsOk Try.prog E_laws_heldRat.cons := consOk_cons m_laws_heldBigInt (callable_of Try.func81 (by kernel_rfl)) (consOk_cons m_laws_heldIntS (callable_of Try.func68 (by kernel_rfl)) (consOk_nil))
theorem loops_laws_heldRat : loopsIn code_laws_heldRat = [] := by kernel_rfl
theorem m_laws_heldRat : Meets Try.prog 39 c_laws_heldRat := meets_of (E := E_laws_heldRat) (code := code_laws_heldRat) mix layD_ok cons_laws_heldRat Try.func39 (by kernel_rfl) sg_laws_heldRat (by kernel_rfl) (fun y => y.1) c_laws_heldRat.out (fun _ => rfl) c_laws_heldRat.run (fun x => by kernel_rfl) (by kernel_rfl) (loops_mem loops_laws_heldRat (trivial))

noncomputable def sg_laws_FnExactTraceOf : Sig := ⟨[(true, [.d (.int .i64), .d (.int .i64), .d (.sl .rat)])], [], false, [(false, [.d (.bool)])], []⟩
noncomputable def c_laws_FnExactTraceOf : Con := ⟨sg_laws_FnExactTraceOf, Bool, fun x => M_laws_FnExactTraceOf (⟨x.1, x.2.1, x.2.2.1⟩ : Mx), fun r => (r, ())⟩
noncomputable def code_laws_FnExactTraceOf : Code := Try.f8.body.getD .skip
noncomputable def E_laws_FnExactTraceOf : Env := ⟨layD, [(28, c_laws_szMatrix), (30, c_laws_toMatrix), (42, c_spec_TraceOf), (43, c_impl_TraceOf), (37, c_laws_eqRat), (25, c_laws_eqMatrix), (26, c_laws_markMatrix_md), (38, c_laws_markRat_md), (39, c_laws_heldRat)], [], [(10, [(0, []), (1, []), (2, [1]), (3, [0, 2, 1]), (4, [])])]⟩
theorem cons_laws_FnExactTraceOf : ConsOk Try.prog E_laws_FnExactTraceOf.cons := consOk_cons m_laws_szMatrix (callable_of Try.func28 (by kernel_rfl)) (consOk_cons m_laws_toMatrix (callable_of Try.func30 (by kernel_rfl)) (consOk_cons m_spec_TraceOf (callable_of Try.func42 (by kernel_rfl)) (consOk_cons m_impl_TraceOf (callable_of Try.func43 (by kernel_rfl)) (consOk_cons m_laws_eqRat (callable_of Try.func37 (by kernel_rfl)) (consOk_cons m_laws_eqMatrix (callable_of Try.func25 (by kernel_rfl)) (consOk_cons m_laws_markMatrix_md (callable_of Try.func26 (by kernel_rfl)) (consOk_cons m_laws_markRat_md (callable_of Try.func38 (by kernel_rfl)) (consOk_cons m_laws_heldRat (callable_of Try.func39 (by kernel_rfl)) (consOk_nil)))))))))
theorem loops_laws_FnExactTraceOf : loopsIn code_laws_FnExactTraceOf = [] := by kernel_rfl
theorem m_laws_FnExactTraceOf : Meets Try.prog 8 c_laws_FnExactTraceOf := meets_of (E := E_laws_FnExactTraceOf) (code := code_laws_FnExactTraceOf) mix layD_ok cons_laws_FnExactTraceOf Try.func8 (by kernel_rfl) sg_laws_FnExactTraceOf (by kernel_rfl) (fun y => y.1) c_laws_FnExactTraceOf.out (fun _ => rfl) c_laws_FnExactTraceOf.run (fun x => by kernel_rfl) (by kernel_rfl) (loops_mem loops_laws_FnExactTraceOf (trivial))
end Go.Proofs.Ytkjfphfbpocijaa.WTraceOf
