/-
  Own work: part 4 of the texts that the proof of the given statement leans on.
-/
import Derived.Test.YtalnijffcoppkaaProg
import Derived.Test.YtalnijffcoppkaaZEqualMatricesP02
/-
  Own work, written by program (gen.py): the functions that the statement reaches meet their contracts.
-/
open Go Go.Di Go.Proofs
namespace Go.Proofs.Ytalnijffcoppkaa.WEqualMatrices
noncomputable def lay : List (TypeId × TI) := [
  (3, ⟨false, [.d (.int .i64 0)], [], none, some (.int .i64), false⟩),
  (4, ⟨false, [.d (.bool false)], [], none, some .bool, false⟩),
  (42, ⟨false, [.mt], [], some .rat, none, false⟩),
  (44, ⟨true, [.d (.int .i64 0), .d (.int .i64 0), .mt], [(0, 1, false), (1, 1, false), (2, 1, false)], none, none, true⟩),
  (47, ⟨false, [.mt], [], some .rat, none, false⟩),
  (49, ⟨true, [.d (.int .i64 0), .d (.int .i64 0), .mt], [(0, 1, false), (1, 1, false), (2, 1, false)], none, none, true⟩),
  (56, ⟨false, [.mt], [], some .int, none, false⟩),
  (58, ⟨true, [.d (.bool false), .mt], [(0, 1, false), (1, 1, false)], none, none, true⟩),
  (60, ⟨true, [.d (.bool false), .mt, .mt], [(0, 2, true), (2, 1, false)], none, none, true⟩),
  (64, ⟨true, [.d (.bool false), .mt], [(0, 1, false), (1, 1, false)], none, none, true⟩),
  (66, ⟨true, [.d (.bool false), .mt, .mt], [(0, 2, true), (2, 1, false)], none, none, true⟩)]
theorem lay_ok : LayOk Try.prog lay := layOk_ok (by kernel_rfl)
theorem mix : Try.prog.follows .mixedOrders = true := by kernel_rfl

noncomputable def sg_laws_szIntS : Sig := ⟨[(false, [.sl .int]), (false, [.int .i64])], false, [(false, [.data (.int .i64)])]⟩
noncomputable def c_laws_szIntS : Con := ⟨sg_laws_szIntS, Int, fun x => M_laws_szIntS x.1 x.2.1, fun r => (r, ())⟩
noncomputable def code_laws_szIntS : Code := Try.f56.body.getD .skip
noncomputable def E_laws_szIntS : Env := ⟨lay, [], [], []⟩
theorem cons_laws_szIntS : ConsOk Try.prog E_laws_szIntS.cons := consOk_nil
theorem loops_laws_szIntS : loopsIn code_laws_szIntS = [] := by kernel_rfl
theorem m_laws_szIntS : Meets Try.prog 56 c_laws_szIntS := meets_of (E := E_laws_szIntS) (code := code_laws_szIntS) mix lay_ok cons_laws_szIntS Try.func56 (by kernel_rfl) sg_laws_szIntS (by kernel_rfl) (fun y => y.1) c_laws_szIntS.out (fun _ => rfl) c_laws_szIntS.run (fun x => by kernel_rfl) (by kernel_rfl) (loops_mem loops_laws_szIntS (trivial))

noncomputable def sg_laws_szBigInt : Sig := ⟨[(true, [.bool, .sl .int]), (false, [.int .i64])], false, [(false, [.data (.int .i64)])]⟩
noncomputable def c_laws_szBigInt : Con := ⟨sg_laws_szBigInt, Int, fun x => M_laws_szBigInt (⟨x.1, x.2.1⟩ : Bg) x.2.2.1, fun r => (r, ())⟩
noncomputable def code_laws_szBigInt : Code := Try.f55.body.getD .skip
noncomputable def E_laws_szBigInt : Env := ⟨lay, [(56, c_laws_szIntS)], [], []⟩
theorem cons_laws_szBigInt : ConsOk Try.prog E_laws_szBigInt.cons := consOk_cons m_laws_szIntS (callable_of Try.func56 (by kernel_rfl)) (consOk_nil)
theorem loops_laws_szBigInt : loopsIn code_laws_szBigInt = [] := by kernel_rfl
theorem m_laws_szBigInt : Meets Try.prog 55 c_laws_szBigInt := meets_of (E := E_laws_szBigInt) (code := code_laws_szBigInt) mix lay_ok cons_laws_szBigInt Try.func55 (by kernel_rfl) sg_laws_szBigInt (by kernel_rfl) (fun y => y.1) c_laws_szBigInt.out (fun _ => rfl) c_laws_szBigInt.run (fun x => by kernel_rfl) (by kernel_rfl) (loops_mem loops_laws_szBigInt (trivial))

noncomputable def sg_laws_szRat : Sig := ⟨[(true, [.bool, .sl .int, .sl .int]), (false, [.int .i64])], false, [(false, [.data (.int .i64)])]⟩
noncomputable def c_laws_szRat : Con := ⟨sg_laws_szRat, Int, fun x => M_laws_szRat (⟨x.1, x.2.1, x.2.2.1⟩ : Rt) x.2.2.2.1, fun r => (r, ())⟩
noncomputable def code_laws_szRat : Code := Try.f46.body.getD .skip
noncomputable def E_laws_szRat : Env := ⟨lay, [(55, c_laws_szBigInt), (56, c_laws_szIntS)], [], []⟩
theorem cons_laws_szRat : ConsOk Try.prog E_laws_szRat.cons := consOk_cons m_laws_szBigInt (callable_of Try.func55 (by kernel_rfl)) (consOk_cons m_laws_szIntS (callable_of Try.func56 (by kernel_rfl)) (consOk_nil))
theorem loops_laws_szRat : loopsIn code_laws_szRat = [] := by kernel_rfl
theorem m_laws_szRat : Meets Try.prog 46 c_laws_szRat := meets_of (E := E_laws_szRat) (code := code_laws_szRat) mix lay_ok cons_laws_szRat Try.func46 (by kernel_rfl) sg_laws_szRat (by kernel_rfl) (fun y => y.1) c_laws_szRat.out (fun _ => rfl) c_laws_szRat.run (fun x => by kernel_rfl) (by kernel_rfl) (loops_mem loops_laws_szRat (trivial))

noncomputable def sg_laws_szRatS : Sig := ⟨[(false, [.sl .rat]), (false, [.int .i64])], false, [(false, [.data (.int .i64)])]⟩
noncomputable def c_laws_szRatS : Con := ⟨sg_laws_szRatS, Int, fun x => M_laws_szRatS x.1 x.2.1, fun r => (r, ())⟩
noncomputable def code_laws_szRatS : Code := Try.f39.body.getD .skip
noncomputable def body_laws_szRatS_0 : Code := (loopsIn code_laws_szRatS).getD 0 .skip
noncomputable def D_laws_szRatS_0 : LoopD := ⟨⟨mkSlots [(0, false, [.d (.sl .rat)]), (1, false, [.d (.int .i64)]), (5, false, [.d (.int .i64)])] 27 0, []⟩, [], [(.ret, ⟨mkSlots [(4, false, [.d (.int .i64)])] 27 0, []⟩, []), (.exit 0, ⟨mkSlots [(1, false, [.d (.int .i64)])] 27 0, []⟩, [])]⟩
noncomputable def S_laws_szRatS_0_w (x : Tys D_laws_szRatS_0.head.ks) : Option (OutT D_laws_szRatS_0.outs) := @whileO ((List Rt) × Int × Int × Unit) ((Int × Unit) ⊕ (Int × Unit)) S_laws_szRatS_0 x
noncomputable def E_laws_szRatS : Env := ⟨lay, [(46, c_laws_szRat)], [(5, mkLM D_laws_szRatS_0 S_laws_szRatS_0_w)], []⟩
theorem cons_laws_szRatS : ConsOk Try.prog E_laws_szRatS.cons := consOk_cons m_laws_szRat (callable_of Try.func46 (by kernel_rfl)) (consOk_nil)
theorem S_laws_szRatS_0_ok (x : Tys D_laws_szRatS_0.head.ks) : stepL E_laws_szRatS D_laws_szRatS_0 body_laws_szRatS_0 x = S_laws_szRatS_0 x := by kernel_rfl
theorem loops_laws_szRatS_0 : loopsIn body_laws_szRatS_0 = [] := by kernel_rfl
theorem l_laws_szRatS_0 : LoopOk Try.prog (mkLM D_laws_szRatS_0 S_laws_szRatS_0_w) body_laws_szRatS_0 := loop_ok2 mix lay_ok cons_laws_szRatS (by kernel_rfl) (loops_mem loops_laws_szRatS_0 (trivial)) S_laws_szRatS_0_ok fun _ _ h => h
theorem loops_laws_szRatS : loopsIn code_laws_szRatS = [body_laws_szRatS_0] := by kernel_rfl
theorem m_laws_szRatS : Meets Try.prog 39 c_laws_szRatS := meets_of (E := E_laws_szRatS) (code := code_laws_szRatS) mix lay_ok cons_laws_szRatS Try.func39 (by kernel_rfl) sg_laws_szRatS (by kernel_rfl) (fun y => y.1) c_laws_szRatS.out (fun _ => rfl) c_laws_szRatS.run (fun x => by kernel_rfl) (by kernel_rfl) (loops_mem loops_laws_szRatS (⟨⟨_, by kernel_rfl, l_laws_szRatS_0⟩, trivial⟩))

noncomputable def sg_laws_szMatrix : Sig := ⟨[(true, [.int .i64, .int .i64, .sl .rat]), (false, [.int .i64])], false, [(false, [.data (.int .i64)])]⟩
noncomputable def c_laws_szMatrix : Con := ⟨sg_laws_szMatrix, Int, fun x => M_laws_szMatrix (⟨x.1, x.2.1, x.2.2.1⟩ : Mx) x.2.2.2.1, fun r => (r, ())⟩
noncomputable def code_laws_szMatrix : Code := Try.f23.body.getD .skip
noncomputable def E_laws_szMatrix : Env := ⟨lay, [(39, c_laws_szRatS)], [], []⟩
theorem cons_laws_szMatrix : ConsOk Try.prog E_laws_szMatrix.cons := consOk_cons m_laws_szRatS (callable_of Try.func39 (by kernel_rfl)) (consOk_nil)
theorem loops_laws_szMatrix : loopsIn code_laws_szMatrix = [] := by kernel_rfl
theorem m_laws_szMatrix : Meets Try.prog 23 c_laws_szMatrix := meets_of (E := E_laws_szMatrix) (code := code_laws_szMatrix) mix lay_ok cons_laws_szMatrix Try.func23 (by kernel_rfl) sg_laws_szMatrix (by kernel_rfl) (fun y => y.1) c_laws_szMatrix.out (fun _ => rfl) c_laws_szMatrix.run (fun x => by kernel_rfl) (by kernel_rfl) (loops_mem loops_laws_szMatrix (trivial))

noncomputable def sg_laws_toIntS : Sig := ⟨[(false, [.sl .int])], false, [(false, [.fresh .int])]⟩
noncomputable def c_laws_toIntS : Con := ⟨sg_laws_toIntS, List Int, fun x => M_laws_toIntS x.1, fun r => (r, ())⟩
noncomputable def code_laws_toIntS : Code := Try.f58.body.getD .skip
noncomputable def body_laws_toIntS_0 : Code := (loopsIn code_laws_toIntS).getD 0 .skip
noncomputable def D_laws_toIntS_0 : LoopD := ⟨⟨mkSlots [(0, false, [.d (.sl .int)]), (3, false, [.own 736]), (4, false, [.d (.int .i64)])] 22 0, [(736, .arr false .int)]⟩, [], [(.exit 0, ⟨mkSlots [(3, false, [.own 736])] 22 0, [(736, .arr false .int)]⟩, [])]⟩
noncomputable def S_laws_toIntS_0_w (x : Tys D_laws_toIntS_0.head.ks) : Option (OutT D_laws_toIntS_0.outs) := @whileO ((List Int) × Int × (List Int) × Unit) ((List Int) × Unit) S_laws_toIntS_0 x
noncomputable def E_laws_toIntS : Env := ⟨lay, [], [(3, mkLM D_laws_toIntS_0 S_laws_toIntS_0_w)], []⟩
theorem cons_laws_toIntS : ConsOk Try.prog E_laws_toIntS.cons := consOk_nil
theorem S_laws_toIntS_0_ok (x : Tys D_laws_toIntS_0.head.ks) : stepL E_laws_toIntS D_laws_toIntS_0 body_laws_toIntS_0 x = S_laws_toIntS_0 x := by kernel_rfl
theorem loops_laws_toIntS_0 : loopsIn body_laws_toIntS_0 = [] := by kernel_rfl
theorem l_laws_toIntS_0 : LoopOk Try.prog (mkLM D_laws_toIntS_0 S_laws_toIntS_0_w) body_laws_toIntS_0 := loop_ok2 mix lay_ok cons_laws_toIntS (by kernel_rfl) (loops_mem loops_laws_toIntS_0 (trivial)) S_laws_toIntS_0_ok fun _ _ h => h
theorem loops_laws_toIntS : loopsIn code_laws_toIntS = [body_laws_toIntS_0] := by kernel_rfl
theorem m_laws_toIntS : Meets Try.prog 58 c_laws_toIntS := meets_of (E := E_laws_toIntS) (code := code_laws_toIntS) mix lay_ok cons_laws_toIntS Try.func58 (by kernel_rfl) sg_laws_toIntS (by kernel_rfl) (fun y => y.1) c_laws_toIntS.out (fun _ => rfl) c_laws_toIntS.run (fun x => by kernel_rfl) (by kernel_rfl) (loops_mem loops_laws_toIntS (⟨⟨_, by kernel_rfl, l_laws_toIntS_0⟩, trivial⟩))

noncomputable def sg_laws_toBigInt : Sig := ⟨[(true, [.bool, .sl .int])], false, [(true, [.data (.bool), .fresh .int])]⟩
noncomputable def c_laws_toBigInt : Con := ⟨sg_laws_toBigInt, Bg, fun x => M_laws_toBigInt (⟨x.1, x.2.1⟩ : Bg), fun r => (r.neg, r.mag, ())⟩
noncomputable def code_laws_toBigInt : Code := Try.f57.body.getD .skip
noncomputable def E_laws_toBigInt : Env := ⟨lay, [(58, c_laws_toIntS)], [], []⟩
theorem cons_laws_toBigInt : ConsOk Try.prog E_laws_toBigInt.cons := consOk_cons m_laws_toIntS (callable_of Try.func58 (by kernel_rfl)) (consOk_nil)
theorem loops_laws_toBigInt : loopsIn code_laws_toBigInt = [] := by kernel_rfl
theorem m_laws_toBigInt : Meets Try.prog 57 c_laws_toBigInt := meets_of (E := E_laws_toBigInt) (code := code_laws_toBigInt) mix lay_ok cons_laws_toBigInt Try.func57 (by kernel_rfl) sg_laws_toBigInt (by kernel_rfl) (fun y => (⟨y.1, y.2.1⟩ : Bg)) c_laws_toBigInt.out (fun _ => rfl) c_laws_toBigInt.run (fun x => by kernel_rfl) (by kernel_rfl) (loops_mem loops_laws_toBigInt (trivial))

noncomputable def sg_laws_toRat : Sig := ⟨[(true, [.bool, .sl .int, .sl .int])], false, [(true, [.data (.bool), .fresh .int, .fresh .int])]⟩
noncomputable def c_laws_toRat : Con := ⟨sg_laws_toRat, Rt, fun x => M_laws_toRat (⟨x.1, x.2.1, x.2.2.1⟩ : Rt), fun r => (r.neg, r.mag, r.den, ())⟩
noncomputable def code_laws_toRat : Code := Try.f47.body.getD .skip
noncomputable def E_laws_toRat : Env := ⟨lay, [(57, c_laws_toBigInt), (58, c_laws_toIntS)], [], []⟩
theorem cons_laws_toRat : ConsOk Try.prog E_laws_toRat.cons := consOk_cons m_laws_toBigInt (callable_of Try.func57 (by kernel_rfl)) (consOk_cons m_laws_toIntS (callable_of Try.func58 (by kernel_rfl)) (consOk_nil))
theorem loops_laws_toRat : loopsIn code_laws_toRat = [] := by kernel_rfl
theorem m_laws_toRat : Meets Try.prog 47 c_laws_toRat := meets_of (E := E_laws_toRat) (code := code_laws_toRat) mix lay_ok cons_laws_toRat Try.func47 (by kernel_rfl) sg_laws_toRat (by kernel_rfl) (fun y => (⟨y.1, y.2.1, y.2.2.1⟩ : Rt)) c_laws_toRat.out (fun _ => rfl) c_laws_toRat.run (fun x => by kernel_rfl) (by kernel_rfl) (loops_mem loops_laws_toRat (trivial))

noncomputable def sg_laws_toRatS : Sig := ⟨[(false, [.sl .rat])], false, [(false, [.fresh .rat])]⟩
noncomputable def c_laws_toRatS : Con := ⟨sg_laws_toRatS, List Rt, fun x => M_laws_toRatS x.1, fun r => (r, ())⟩
noncomputable def code_laws_toRatS : Code := Try.f41.body.getD .skip
noncomputable def body_laws_toRatS_0 : Code := (loopsIn code_laws_toRatS).getD 0 .skip
noncomputable def D_laws_toRatS_0 : LoopD := ⟨⟨mkSlots [(0, false, [.d (.sl .rat)]), (3, false, [.own 768]), (4, false, [.d (.int .i64)])] 23 0, [(768, .arr false .rat)]⟩, [], [(.exit 0, ⟨mkSlots [(3, false, [.own 768])] 23 0, [(768, .arr false .rat)]⟩, [])]⟩
noncomputable def S_laws_toRatS_0_w (x : Tys D_laws_toRatS_0.head.ks) : Option (OutT D_laws_toRatS_0.outs) := @whileO ((List Rt) × Int × (List Rt) × Unit) ((List Rt) × Unit) S_laws_toRatS_0 x
noncomputable def E_laws_toRatS : Env := ⟨lay, [(47, c_laws_toRat)], [(3, mkLM D_laws_toRatS_0 S_laws_toRatS_0_w)], []⟩
theorem cons_laws_toRatS : ConsOk Try.prog E_laws_toRatS.cons := consOk_cons m_laws_toRat (callable_of Try.func47 (by kernel_rfl)) (consOk_nil)
theorem S_laws_toRatS_0_ok (x : Tys D_laws_toRatS_0.head.ks) : stepL E_laws_toRatS D_laws_toRatS_0 body_laws_toRatS_0 x = S_laws_toRatS_0 x := by kernel_rfl
theorem loops_laws_toRatS_0 : loopsIn body_laws_toRatS_0 = [] := by kernel_rfl
theorem l_laws_toRatS_0 : LoopOk Try.prog (mkLM D_laws_toRatS_0 S_laws_toRatS_0_w) body_laws_toRatS_0 := loop_ok2 mix lay_ok cons_laws_toRatS (by kernel_rfl) (loops_mem loops_laws_toRatS_0 (trivial)) S_laws_toRatS_0_ok fun _ _ h => h
theorem loops_laws_toRatS : loopsIn code_laws_toRatS = [body_laws_toRatS_0] := by kernel_rfl
theorem m_laws_toRatS : Meets Try.prog 41 c_laws_toRatS := meets_of (E := E_laws_toRatS) (code := code_laws_toRatS) mix lay_ok cons_laws_toRatS Try.func41 (by kernel_rfl) sg_laws_toRatS (by kernel_rfl) (fun y => y.1) c_laws_toRatS.out (fun _ => rfl) c_laws_toRatS.run (fun x => by kernel_rfl) (by kernel_rfl) (loops_mem loops_laws_toRatS (⟨⟨_, by kernel_rfl, l_laws_toRatS_0⟩, trivial⟩))

noncomputable def sg_laws_toMatrix : Sig := ⟨[(true, [.int .i64, .int .i64, .sl .rat])], false, [(true, [.data (.int .i64), .data (.int .i64), .fresh .rat])]⟩
noncomputable def c_laws_toMatrix : Con := ⟨sg_laws_toMatrix, Mx, fun x => M_laws_toMatrix (⟨x.1, x.2.1, x.2.2.1⟩ : Mx), fun r => (r.rows, r.cols, r.cells, ())⟩
noncomputable def code_laws_toMatrix : Code := Try.f25.body.getD .skip
noncomputable def E_laws_toMatrix : Env := ⟨lay, [(41, c_laws_toRatS)], [], []⟩
theorem cons_laws_toMatrix : ConsOk Try.prog E_laws_toMatrix.cons := consOk_cons m_laws_toRatS (callable_of Try.func41 (by kernel_rfl)) (consOk_nil)
theorem loops_laws_toMatrix : loopsIn code_laws_toMatrix = [] := by kernel_rfl
theorem m_laws_toMatrix : Meets Try.prog 25 c_laws_toMatrix := meets_of (E := E_laws_toMatrix) (code := code_laws_toMatrix) mix lay_ok cons_laws_toMatrix Try.func25 (by kernel_rfl) sg_laws_toMatrix (by kernel_rfl) (fun y => (⟨y.1, y.2.1, y.2.2.1⟩ : Mx)) c_laws_toMatrix.out (fun _ => rfl) c_laws_toMatrix.run (fun x => by kernel_rfl) (by kernel_rfl) (loops_mem loops_laws_toMatrix (trivial))

noncomputable def sg_spec_l04List : Sig := ⟨[(false, [.sl .int]), (false, [.sl .int])], false, [(false, [.data (.bool)])]⟩
noncomputable def c_spec_l04List : Con := ⟨sg_spec_l04List, Bool, fun x => M_spec_l04List x.1 x.2.1, fun r => (r, ())⟩
noncomputable def code_spec_l04List : Code := Try.f61.body.getD .skip
noncomputable def body_spec_l04List_0 : Code := (loopsIn code_spec_l04List).getD 0 .skip
noncomputable def D_spec_l04List_0 : LoopD := ⟨⟨mkSlots [(0, false, [.d (.sl .int)]), (1, false, [.d (.sl .int)]), (12, false, [.d (.int .i64)]), (13, false, [.d (.int .i64)])] 26 0, []⟩, [], [(.ret, ⟨mkSlots [(4, false, [.d (.bool)])] 26 0, []⟩, []), (.exit 0, ⟨mkSlots [] 26 0, []⟩, [])]⟩
noncomputable def S_spec_l04List_0_w (x : Tys D_spec_l04List_0.head.ks) : Option (OutT D_spec_l04List_0.outs) := @whileO ((List Int) × (List Int) × Int × Int × Unit) ((Bool × Unit) ⊕ (Unit)) S_spec_l04List_0 x
noncomputable def E_spec_l04List : Env := ⟨lay, [], [(4, mkLM D_spec_l04List_0 S_spec_l04List_0_w)], [(6, [(0, []), (1, []), (2, []), (3, []), (4, []), (5, []), (6, []), (7, []), (8, [])])]⟩
theorem cons_spec_l04List : ConsOk Try.prog E_spec_l04List.cons := consOk_nil
theorem S_spec_l04List_0_ok (x : Tys D_spec_l04List_0.head.ks) : stepL E_spec_l04List D_spec_l04List_0 body_spec_l04List_0 x = S_spec_l04List_0 x := by kernel_rfl
theorem loops_spec_l04List_0 : loopsIn body_spec_l04List_0 = [] := by kernel_rfl
theorem l_spec_l04List_0 : LoopOk Try.prog (mkLM D_spec_l04List_0 S_spec_l04List_0_w) body_spec_l04List_0 := loop_ok2 mix lay_ok cons_spec_l04List (by kernel_rfl) (loops_mem loops_spec_l04List_0 (trivial)) S_spec_l04List_0_ok fun _ _ h => h
theorem loops_spec_l04List : loopsIn code_spec_l04List = [body_spec_l04List_0] := by kernel_rfl
theorem m_spec_l04List : Meets Try.prog 61 c_spec_l04List := meets_of (E := E_spec_l04List) (code := code_spec_l04List) mix lay_ok cons_spec_l04List Try.func61 (by kernel_rfl) sg_spec_l04List (by kernel_rfl) (fun y => y.1) c_spec_l04List.out (fun _ => rfl) c_spec_l04List.run (fun x => by kernel_rfl) (by kernel_rfl) (loops_mem loops_spec_l04List (⟨⟨_, by kernel_rfl, l_spec_l04List_0⟩, trivial⟩))

noncomputable def sg_spec_RatEqual : Sig := ⟨[(true, [.bool, .sl .int, .sl .int]), (true, [.bool, .sl .int, .sl .int])], false, [(false, [.data (.bool)])]⟩
noncomputable def c_spec_RatEqual : Con := ⟨sg_spec_RatEqual, Bool, fun x => M_spec_RatEqual (⟨x.1, x.2.1, x.2.2.1⟩ : Rt) (⟨x.2.2.2.1, x.2.2.2.2.1, x.2.2.2.2.2.1⟩ : Rt), fun r => (r, ())⟩
noncomputable def code_spec_RatEqual : Code := Try.f53.body.getD .skip
noncomputable def E_spec_RatEqual : Env := ⟨lay, [(61, c_spec_l04List)], [], []⟩
theorem cons_spec_RatEqual : ConsOk Try.prog E_spec_RatEqual.cons := consOk_cons m_spec_l04List (callable_of Try.func61 (by kernel_rfl)) (consOk_nil)
theorem loops_spec_RatEqual : loopsIn code_spec_RatEqual = [] := by kernel_rfl
theorem m_spec_RatEqual : Meets Try.prog 53 c_spec_RatEqual := meets_of (E := E_spec_RatEqual) (code := code_spec_RatEqual) mix lay_ok cons_spec_RatEqual Try.func53 (by kernel_rfl) sg_spec_RatEqual (by kernel_rfl) (fun y => y.1) c_spec_RatEqual.out (fun _ => rfl) c_spec_RatEqual.run (fun x => by kernel_rfl) (by kernel_rfl) (loops_mem loops_spec_RatEqual (trivial))

noncomputable def sg_spec_EqualVectors : Sig := ⟨[(false, [.sl .rat]), (false, [.sl .rat])], false, [(false, [.data (.bool)])]⟩
noncomputable def c_spec_EqualVectors : Con := ⟨sg_spec_EqualVectors, Bool, fun x => M_spec_EqualVectors x.1 x.2.1, fun r => (r, ())⟩
noncomputable def code_spec_EqualVectors : Code := Try.f40.body.getD .skip
noncomputable def body_spec_EqualVectors_0 : Code := (loopsIn code_spec_EqualVectors).getD 0 .skip
noncomputable def D_spec_EqualVectors_0 : LoopD := ⟨⟨mkSlots [(1, false, [.d (.sl .rat)]), (12, false, [.d (.sl .rat)]), (13, false, [.d (.int .i64)]), (14, false, [.d (.int .i64)])] 27 0, []⟩, [], [(.ret, ⟨mkSlots [(4, false, [.d (.bool)])] 27 0, []⟩, []), (.exit 0, ⟨mkSlots [] 27 0, []⟩, [])]⟩
noncomputable def S_spec_EqualVectors_0_w (x : Tys D_spec_EqualVectors_0.head.ks) : Option (OutT D_spec_EqualVectors_0.outs) := @whileO ((List Rt) × (List Rt) × Int × Int × Unit) ((Bool × Unit) ⊕ (Unit)) S_spec_EqualVectors_0 x
noncomputable def E_spec_EqualVectors : Env := ⟨lay, [(53, c_spec_RatEqual)], [(4, mkLM D_spec_EqualVectors_0 S_spec_EqualVectors_0_w)], [(6, [(0, []), (1, []), (2, []), (3, []), (4, []), (5, [0, 4, 3, 1, 2]), (6, [])])]⟩
theorem cons_spec_EqualVectors : ConsOk Try.prog E_spec_EqualVectors.cons := consOk_cons m_spec_RatEqual (callable_of Try.func53 (by kernel_rfl)) (consOk_nil)
theorem S_spec_EqualVectors_0_ok (x : Tys D_spec_EqualVectors_0.head.ks) : stepL E_spec_EqualVectors D_spec_EqualVectors_0 body_spec_EqualVectors_0 x = S_spec_EqualVectors_0 x := by kernel_rfl
theorem loops_spec_EqualVectors_0 : loopsIn body_spec_EqualVectors_0 = [] := by kernel_rfl
theorem l_spec_EqualVectors_0 : LoopOk Try.prog (mkLM D_spec_EqualVectors_0 S_spec_EqualVectors_0_w) body_spec_EqualVectors_0 := loop_ok2 mix lay_ok cons_spec_EqualVectors (by kernel_rfl) (loops_mem loops_spec_EqualVectors_0 (trivial)) S_spec_EqualVectors_0_ok fun _ _ h => h
theorem loops_spec_EqualVectors : loopsIn code_spec_EqualVectors = [body_spec_EqualVectors_0] := by kernel_rfl
theorem m_spec_EqualVectors : Meets Try.prog 40 c_spec_EqualVectors := meets_of (E := E_spec_EqualVectors) (code := code_spec_EqualVectors) mix lay_ok cons_spec_EqualVectors Try.func40 (by kernel_rfl) sg_spec_EqualVectors (by kernel_rfl) (fun y => y.1) c_spec_EqualVectors.out (fun _ => rfl) c_spec_EqualVectors.run (fun x => by kernel_rfl) (by kernel_rfl) (loops_mem loops_spec_EqualVectors (⟨⟨_, by kernel_rfl, l_spec_EqualVectors_0⟩, trivial⟩))

noncomputable def sg_spec_EqualMatrices : Sig := ⟨[(true, [.int .i64, .int .i64, .sl .rat]), (true, [.int .i64, .int .i64, .sl .rat])], false, [(false, [.data (.bool)])]⟩
noncomputable def c_spec_EqualMatrices : Con := ⟨sg_spec_EqualMatrices, Bool, fun x => M_spec_EqualMatrices (⟨x.1, x.2.1, x.2.2.1⟩ : Mx) (⟨x.2.2.2.1, x.2.2.2.2.1, x.2.2.2.2.2.1⟩ : Mx), fun r => (r, ())⟩
noncomputable def code_spec_EqualMatrices : Code := Try.f24.body.getD .skip
noncomputable def E_spec_EqualMatrices : Env := ⟨lay, [(40, c_spec_EqualVectors)], [], []⟩
theorem cons_spec_EqualMatrices : ConsOk Try.prog E_spec_EqualMatrices.cons := consOk_cons m_spec_EqualVectors (callable_of Try.func40 (by kernel_rfl)) (consOk_nil)
theorem loops_spec_EqualMatrices : loopsIn code_spec_EqualMatrices = [] := by kernel_rfl
theorem m_spec_EqualMatrices : Meets Try.prog 24 c_spec_EqualMatrices := meets_of (E := E_spec_EqualMatrices) (code := code_spec_EqualMatrices) mix lay_ok cons_spec_EqualMatrices Try.func24 (by kernel_rfl) sg_spec_EqualMatrices (by kernel_rfl) (fun y => y.1) c_spec_EqualMatrices.out (fun _ => rfl) c_spec_EqualMatrices.run (fun x => by kernel_rfl) (by kernel_rfl) (loops_mem loops_spec_EqualMatrices (trivial))

noncomputable def sg_impl_sameInts : Sig := ⟨[(false, [.sl .int]), (false, [.sl .int])], false, [(false, [.data (.bool)])]⟩
noncomputable def c_impl_sameInts : Con := ⟨sg_impl_sameInts, Bool, fun x => M_impl_sameInts x.1 x.2.1, fun r => (r, ())⟩
noncomputable def code_impl_sameInts : Code := Try.f62.body.getD .skip
noncomputable def body_impl_sameInts_0 : Code := (loopsIn code_impl_sameInts).getD 0 .skip
noncomputable def D_impl_sameInts_0 : LoopD := ⟨⟨mkSlots [(0, false, [.d (.sl .int)]), (1, false, [.d (.sl .int)]), (12, false, [.d (.int .i64)]), (13, false, [.d (.int .i64)])] 26 0, []⟩, [], [(.ret, ⟨mkSlots [(4, false, [.d (.bool)])] 26 0, []⟩, []), (.exit 0, ⟨mkSlots [] 26 0, []⟩, [])]⟩
noncomputable def S_impl_sameInts_0_w (x : Tys D_impl_sameInts_0.head.ks) : Option (OutT D_impl_sameInts_0.outs) := @whileO ((List Int) × (List Int) × Int × Int × Unit) ((Bool × Unit) ⊕ (Unit)) S_impl_sameInts_0 x
noncomputable def E_impl_sameInts : Env := ⟨lay, [], [(4, mkLM D_impl_sameInts_0 S_impl_sameInts_0_w)], [(6, [(0, []), (1, []), (2, []), (3, []), (4, []), (5, []), (6, []), (7, []), (8, [])])]⟩
theorem cons_impl_sameInts : ConsOk Try.prog E_impl_sameInts.cons := consOk_nil
theorem S_impl_sameInts_0_ok (x : Tys D_impl_sameInts_0.head.ks) : stepL E_impl_sameInts D_impl_sameInts_0 body_impl_sameInts_0 x = S_impl_sameInts_0 x := by kernel_rfl
theorem loops_impl_sameInts_0 : loopsIn body_impl_sameInts_0 = [] := by kernel_rfl
theorem l_impl_sameInts_0 : LoopOk Try.prog (mkLM D_impl_sameInts_0 S_impl_sameInts_0_w) body_impl_sameInts_0 := loop_ok2 mix lay_ok cons_impl_sameInts (by kernel_rfl) (loops_mem loops_impl_sameInts_0 (trivial)) S_impl_sameInts_0_ok fun _ _ h => h
theorem loops_impl_sameInts : loopsIn code_impl_sameInts = [body_impl_sameInts_0] := by kernel_rfl
theorem m_impl_sameInts : Meets Try.prog 62 c_impl_sameInts := meets_of (E := E_impl_sameInts) (code := code_impl_sameInts) mix lay_ok cons_impl_sameInts Try.func62 (by kernel_rfl) sg_impl_sameInts (by kernel_rfl) (fun y => y.1) c_impl_sameInts.out (fun _ => rfl) c_impl_sameInts.run (fun x => by kernel_rfl) (by kernel_rfl) (loops_mem loops_impl_sameInts (⟨⟨_, by kernel_rfl, l_impl_sameInts_0⟩, trivial⟩))

noncomputable def sg_impl_RatEqual : Sig := ⟨[(true, [.bool, .sl .int, .sl .int]), (true, [.bool, .sl .int, .sl .int])], false, [(false, [.data (.bool)])]⟩
noncomputable def c_impl_RatEqual : Con := ⟨sg_impl_RatEqual, Bool, fun x => M_impl_RatEqual (⟨x.1, x.2.1, x.2.2.1⟩ : Rt) (⟨x.2.2.2.1, x.2.2.2.2.1, x.2.2.2.2.2.1⟩ : Rt), fun r => (r, ())⟩
noncomputable def code_impl_RatEqual : Code := Try.f54.body.getD .skip
noncomputable def E_impl_RatEqual : Env := ⟨lay, [(62, c_impl_sameInts)], [], []⟩
theorem cons_impl_RatEqual : ConsOk Try.prog E_impl_RatEqual.cons := consOk_cons m_impl_sameInts (callable_of Try.func62 (by kernel_rfl)) (consOk_nil)
theorem loops_impl_RatEqual : loopsIn code_impl_RatEqual = [] := by kernel_rfl
theorem m_impl_RatEqual : Meets Try.prog 54 c_impl_RatEqual := meets_of (E := E_impl_RatEqual) (code := code_impl_RatEqual) mix lay_ok cons_impl_RatEqual Try.func54 (by kernel_rfl) sg_impl_RatEqual (by kernel_rfl) (fun y => y.1) c_impl_RatEqual.out (fun _ => rfl) c_impl_RatEqual.run (fun x => by kernel_rfl) (by kernel_rfl) (loops_mem loops_impl_RatEqual (trivial))

noncomputable def sg_impl_EqualVectors : Sig := ⟨[(false, [.sl .rat]), (false, [.sl .rat])], false, [(false, [.data (.bool)])]⟩
noncomputable def c_impl_EqualVectors : Con := ⟨sg_impl_EqualVectors, Bool, fun x => M_impl_EqualVectors x.1 x.2.1, fun r => (r, ())⟩
noncomputable def code_impl_EqualVectors : Code := Try.f42.body.getD .skip
noncomputable def body_impl_EqualVectors_0 : Code := (loopsIn code_impl_EqualVectors).getD 0 .skip
noncomputable def D_impl_EqualVectors_0 : LoopD := ⟨⟨mkSlots [(0, false, [.d (.sl .rat)]), (1, false, [.d (.sl .rat)]), (12, false, [.d (.int .i64)]), (13, false, [.d (.int .i64)])] 27 0, []⟩, [], [(.ret, ⟨mkSlots [(4, false, [.d (.bool)])] 27 0, []⟩, []), (.exit 0, ⟨mkSlots [] 27 0, []⟩, [])]⟩
noncomputable def S_impl_EqualVectors_0_w (x : Tys D_impl_EqualVectors_0.head.ks) : Option (OutT D_impl_EqualVectors_0.outs) := @whileO ((List Rt) × (List Rt) × Int × Int × Unit) ((Bool × Unit) ⊕ (Unit)) S_impl_EqualVectors_0 x
noncomputable def E_impl_EqualVectors : Env := ⟨lay, [(54, c_impl_RatEqual)], [(4, mkLM D_impl_EqualVectors_0 S_impl_EqualVectors_0_w)], [(6, [(0, []), (1, []), (2, []), (3, []), (4, []), (5, []), (6, []), (7, []), (8, [3, 7, 2, 6, 0, 1, 4, 5]), (9, [])])]⟩
theorem cons_impl_EqualVectors : ConsOk Try.prog E_impl_EqualVectors.cons := consOk_cons m_impl_RatEqual (callable_of Try.func54 (by kernel_rfl)) (consOk_nil)
theorem S_impl_EqualVectors_0_ok (x : Tys D_impl_EqualVectors_0.head.ks) : stepL E_impl_EqualVectors D_impl_EqualVectors_0 body_impl_EqualVectors_0 x = S_impl_EqualVectors_0 x := by kernel_rfl
theorem loops_impl_EqualVectors_0 : loopsIn body_impl_EqualVectors_0 = [] := by kernel_rfl
theorem l_impl_EqualVectors_0 : LoopOk Try.prog (mkLM D_impl_EqualVectors_0 S_impl_EqualVectors_0_w) body_impl_EqualVectors_0 := loop_ok2 mix lay_ok cons_impl_EqualVectors (by kernel_rfl) (loops_mem loops_impl_EqualVectors_0 (trivial)) S_impl_EqualVectors_0_ok fun _ _ h => h
theorem loops_impl_EqualVectors : loopsIn code_impl_EqualVectors = [body_impl_EqualVectors_0] := by kernel_rfl
theorem m_impl_EqualVectors : Meets Try.prog 42 c_impl_EqualVectors := meets_of (E := E_impl_EqualVectors) (code := code_impl_EqualVectors) mix lay_ok cons_impl_EqualVectors Try.func42 (by kernel_rfl) sg_impl_EqualVectors (by kernel_rfl) (fun y => y.1) c_impl_EqualVectors.out (fun _ => rfl) c_impl_EqualVectors.run (fun x => by kernel_rfl) (by kernel_rfl) (loops_mem loops_impl_EqualVectors (⟨⟨_, by kernel_rfl, l_impl_EqualVectors_0⟩, trivial⟩))

noncomputable def sg_impl_EqualMatrices : Sig := ⟨[(true, [.int .i64, .int .i64, .sl .rat]), (true, [.int .i64, .int .i64, .sl .rat])], false, [(false, [.data (.bool)])]⟩
noncomputable def c_impl_EqualMatrices : Con := ⟨sg_impl_EqualMatrices, Bool, fun x => M_impl_EqualMatrices (⟨x.1, x.2.1, x.2.2.1⟩ : Mx) (⟨x.2.2.2.1, x.2.2.2.2.1, x.2.2.2.2.2.1⟩ : Mx), fun r => (r, ())⟩
noncomputable def code_impl_EqualMatrices : Code := Try.f26.body.getD .skip
noncomputable def E_impl_EqualMatrices : Env := ⟨lay, [(42, c_impl_EqualVectors)], [], []⟩
theorem cons_impl_EqualMatrices : ConsOk Try.prog E_impl_EqualMatrices.cons := consOk_cons m_impl_EqualVectors (callable_of Try.func42 (by kernel_rfl)) (consOk_nil)
theorem loops_impl_EqualMatrices : loopsIn code_impl_EqualMatrices = [] := by kernel_rfl
theorem m_impl_EqualMatrices : Meets Try.prog 26 c_impl_EqualMatrices := meets_of (E := E_impl_EqualMatrices) (code := code_impl_EqualMatrices) mix lay_ok cons_impl_EqualMatrices Try.func26 (by kernel_rfl) sg_impl_EqualMatrices (by kernel_rfl) (fun y => y.1) c_impl_EqualMatrices.out (fun _ => rfl) c_impl_EqualMatrices.run (fun x => by kernel_rfl) (by kernel_rfl) (loops_mem loops_impl_EqualMatrices (trivial))

noncomputable def sg_laws_eqIntS : Sig := ⟨[(false, [.sl .int]), (false, [.sl .int])], false, [(false, [.data (.bool)])]⟩
noncomputable def c_laws_eqIntS : Con := ⟨sg_laws_eqIntS, Bool, fun x => M_laws_eqIntS x.1 x.2.1, fun r => (r, ())⟩
noncomputable def code_laws_eqIntS : Code := Try.f60.body.getD .skip
noncomputable def body_laws_eqIntS_0 : Code := (loopsIn code_laws_eqIntS).getD 0 .skip
noncomputable def D_laws_eqIntS_0 : LoopD := ⟨⟨mkSlots [(0, false, [.d (.sl .int)]), (1, false, [.d (.sl .int)]), (5, false, [.d (.int .i64)])] 26 0, []⟩, [], [(.ret, ⟨mkSlots [(4, false, [.d (.bool)])] 26 0, []⟩, []), (.exit 0, ⟨mkSlots [] 26 0, []⟩, [])]⟩
noncomputable def S_laws_eqIntS_0_w (x : Tys D_laws_eqIntS_0.head.ks) : Option (OutT D_laws_eqIntS_0.outs) := @whileO ((List Int) × (List Int) × Int × Unit) ((Bool × Unit) ⊕ (Unit)) S_laws_eqIntS_0 x
noncomputable def E_laws_eqIntS : Env := ⟨lay, [], [(4, mkLM D_laws_eqIntS_0 S_laws_eqIntS_0_w)], [(6, [(0, []), (1, []), (2, []), (3, []), (4, []), (5, []), (6, []), (7, []), (8, [])])]⟩
theorem cons_laws_eqIntS : ConsOk Try.prog E_laws_eqIntS.cons := consOk_nil
theorem S_laws_eqIntS_0_ok (x : Tys D_laws_eqIntS_0.head.ks) : stepL E_laws_eqIntS D_laws_eqIntS_0 body_laws_eqIntS_0 x = S_laws_eqIntS_0 x := by kernel_rfl
theorem loops_laws_eqIntS_0 : loopsIn body_laws_eqIntS_0 = [] := by kernel_rfl
theorem l_laws_eqIntS_0 : LoopOk Try.prog (mkLM D_laws_eqIntS_0 S_laws_eqIntS_0_w) body_laws_eqIntS_0 := loop_ok2 mix lay_ok cons_laws_eqIntS (by kernel_rfl) (loops_mem loops_laws_eqIntS_0 (trivial)) S_laws_eqIntS_0_ok fun _ _ h => h
theorem loops_laws_eqIntS : loopsIn code_laws_eqIntS = [body_laws_eqIntS_0] := by kernel_rfl
theorem m_laws_eqIntS : Meets Try.prog 60 c_laws_eqIntS := meets_of (E := E_laws_eqIntS) (code := code_laws_eqIntS) mix lay_ok cons_laws_eqIntS Try.func60 (by kernel_rfl) sg_laws_eqIntS (by kernel_rfl) (fun y => y.1) c_laws_eqIntS.out (fun _ => rfl) c_laws_eqIntS.run (fun x => by kernel_rfl) (by kernel_rfl) (loops_mem loops_laws_eqIntS (⟨⟨_, by kernel_rfl, l_laws_eqIntS_0⟩, trivial⟩))

noncomputable def sg_laws_eqBigInt : Sig := ⟨[(true, [.bool, .sl .int]), (true, [.bool, .sl .int])], false, [(false, [.data (.bool)])]⟩
noncomputable def c_laws_eqBigInt : Con := ⟨sg_laws_eqBigInt, Bool, fun x => M_laws_eqBigInt (⟨x.1, x.2.1⟩ : Bg) (⟨x.2.2.1, x.2.2.2.1⟩ : Bg), fun r => (r, ())⟩
noncomputable def code_laws_eqBigInt : Code := Try.f59.body.getD .skip
noncomputable def E_laws_eqBigInt : Env := ⟨lay, [(60, c_laws_eqIntS)], [], []⟩
theorem cons_laws_eqBigInt : ConsOk Try.prog E_laws_eqBigInt.cons := consOk_cons m_laws_eqIntS (callable_of Try.func60 (by kernel_rfl)) (consOk_nil)
theorem loops_laws_eqBigInt : loopsIn code_laws_eqBigInt = [] := by kernel_rfl
theorem m_laws_eqBigInt : Meets Try.prog 59 c_laws_eqBigInt := meets_of (E := E_laws_eqBigInt) (code := code_laws_eqBigInt) mix lay_ok cons_laws_eqBigInt Try.func59 (by kernel_rfl) sg_laws_eqBigInt (by kernel_rfl) (fun y => y.1) c_laws_eqBigInt.out (fun _ => rfl) c_laws_eqBigInt.run (fun x => by kernel_rfl) (by kernel_rfl) (loops_mem loops_laws_eqBigInt (trivial))

noncomputable def sg_laws_eqRat : Sig := ⟨[(true, [.bool, .sl .int, .sl .int]), (true, [.bool, .sl .int, .sl .int])], false, [(false, [.data (.bool)])]⟩
noncomputable def c_laws_eqRat : Con := ⟨sg_laws_eqRat, Bool, fun x => M_laws_eqRat (⟨x.1, x.2.1, x.2.2.1⟩ : Rt) (⟨x.2.2.2.1, x.2.2.2.2.1, x.2.2.2.2.2.1⟩ : Rt), fun r => (r, ())⟩
noncomputable def code_laws_eqRat : Code := Try.f49.body.getD .skip
noncomputable def E_laws_eqRat : Env := ⟨lay, [(59, c_laws_eqBigInt), (60, c_laws_eqIntS)], [], []⟩
theorem cons_laws_eqRat : ConsOk Try.prog E_laws_eqRat.cons := consOk_cons m_laws_eqBigInt (callable_of Try.func59 (by kernel_rfl)) (consOk_cons m_laws_eqIntS (callable_of Try.func60 (by kernel_rfl)) (consOk_nil))
theorem loops_laws_eqRat : loopsIn code_laws_eqRat = [] := by kernel_rfl
theorem m_laws_eqRat : Meets Try.prog 49 c_laws_eqRat := meets_of (E := E_laws_eqRat) (code := code_laws_eqRat) mix lay_ok cons_laws_eqRat Try.func49 (by kernel_rfl) sg_laws_eqRat (by kernel_rfl) (fun y => y.1) c_laws_eqRat.out (fun _ => rfl) c_laws_eqRat.run (fun x => by kernel_rfl) (by kernel_rfl) (loops_mem loops_laws_eqRat (trivial))

noncomputable def sg_laws_eqRatS : Sig := ⟨[(false, [.sl .rat]), (false, [.sl .rat])], false, [(false, [.data (.bool)])]⟩
noncomputable def c_laws_eqRatS : Con := ⟨sg_laws_eqRatS, Bool, fun x => M_laws_eqRatS x.1 x.2.1, fun r => (r, ())⟩
noncomputable def code_laws_eqRatS : Code := Try.f43.body.getD .skip
noncomputable def body_laws_eqRatS_0 : Code := (loopsIn code_laws_eqRatS).getD 0 .skip
noncomputable def D_laws_eqRatS_0 : LoopD := ⟨⟨mkSlots [(0, false, [.d (.sl .rat)]), (1, false, [.d (.sl .rat)]), (5, false, [.d (.int .i64)])] 27 0, []⟩, [], [(.ret, ⟨mkSlots [(4, false, [.d (.bool)])] 27 0, []⟩, []), (.exit 0, ⟨mkSlots [] 27 0, []⟩, [])]⟩
noncomputable def S_laws_eqRatS_0_w (x : Tys D_laws_eqRatS_0.head.ks) : Option (OutT D_laws_eqRatS_0.outs) := @whileO ((List Rt) × (List Rt) × Int × Unit) ((Bool × Unit) ⊕ (Unit)) S_laws_eqRatS_0 x
noncomputable def E_laws_eqRatS : Env := ⟨lay, [(49, c_laws_eqRat)], [(4, mkLM D_laws_eqRatS_0 S_laws_eqRatS_0_w)], [(6, [(0, []), (1, []), (2, []), (3, []), (4, []), (5, []), (6, []), (7, []), (8, [3, 7, 2, 6, 0, 1, 4, 5]), (9, [])])]⟩
theorem cons_laws_eqRatS : ConsOk Try.prog E_laws_eqRatS.cons := consOk_cons m_laws_eqRat (callable_of Try.func49 (by kernel_rfl)) (consOk_nil)
theorem S_laws_eqRatS_0_ok (x : Tys D_laws_eqRatS_0.head.ks) : stepL E_laws_eqRatS D_laws_eqRatS_0 body_laws_eqRatS_0 x = S_laws_eqRatS_0 x := by kernel_rfl
theorem loops_laws_eqRatS_0 : loopsIn body_laws_eqRatS_0 = [] := by kernel_rfl
theorem l_laws_eqRatS_0 : LoopOk Try.prog (mkLM D_laws_eqRatS_0 S_laws_eqRatS_0_w) body_laws_eqRatS_0 := loop_ok2 mix lay_ok cons_laws_eqRatS (by kernel_rfl) (loops_mem loops_laws_eqRatS_0 (trivial)) S_laws_eqRatS_0_ok fun _ _ h => h
theorem loops_laws_eqRatS : loopsIn code_laws_eqRatS = [body_laws_eqRatS_0] := by kernel_rfl
theorem m_laws_eqRatS : Meets Try.prog 43 c_laws_eqRatS := meets_of (E := E_laws_eqRatS) (code := code_laws_eqRatS) mix lay_ok cons_laws_eqRatS Try.func43 (by kernel_rfl) sg_laws_eqRatS (by kernel_rfl) (fun y => y.1) c_laws_eqRatS.out (fun _ => rfl) c_laws_eqRatS.run (fun x => by kernel_rfl) (by kernel_rfl) (loops_mem loops_laws_eqRatS (⟨⟨_, by kernel_rfl, l_laws_eqRatS_0⟩, trivial⟩))

noncomputable def sg_laws_eqMatrix : Sig := ⟨[(true, [.int .i64, .int .i64, .sl .rat]), (true, [.int .i64, .int .i64, .sl .rat])], false, [(false, [.data (.bool)])]⟩
noncomputable def c_laws_eqMatrix : Con := ⟨sg_laws_eqMatrix, Bool, fun x => M_laws_eqMatrix (⟨x.1, x.2.1, x.2.2.1⟩ : Mx) (⟨x.2.2.2.1, x.2.2.2.2.1, x.2.2.2.2.2.1⟩ : Mx), fun r => (r, ())⟩
noncomputable def code_laws_eqMatrix : Code := Try.f27.body.getD .skip
noncomputable def E_laws_eqMatrix : Env := ⟨lay, [(43, c_laws_eqRatS)], [], []⟩
theorem cons_laws_eqMatrix : ConsOk Try.prog E_laws_eqMatrix.cons := consOk_cons m_laws_eqRatS (callable_of Try.func43 (by kernel_rfl)) (consOk_nil)
theorem loops_laws_eqMatrix : loopsIn code_laws_eqMatrix = [] := by kernel_rfl
theorem m_laws_eqMatrix : Meets Try.prog 27 c_laws_eqMatrix := meets_of (E := E_laws_eqMatrix) (code := code_laws_eqMatrix) mix lay_ok cons_laws_eqMatrix Try.func27 (by kernel_rfl) sg_laws_eqMatrix (by kernel_rfl) (fun y => y.1) c_laws_eqMatrix.out (fun _ => rfl) c_laws_eqMatrix.run (fun x => by kernel_rfl) (by kernel_rfl) (loops_mem loops_laws_eqMatrix (trivial))

noncomputable def sg_laws_FnExactEqualMatrices : Sig := ⟨[(true, [.int .i64, .int .i64, .sl .rat]), (true, [.int .i64, .int .i64, .sl .rat])], false, [(false, [.data (.bool)])]⟩
noncomputable def c_laws_FnExactEqualMatrices : Con := ⟨sg_laws_FnExactEqualMatrices, Bool, fun x => M_laws_FnExactEqualMatrices (⟨x.1, x.2.1, x.2.2.1⟩ : Mx) (⟨x.2.2.2.1, x.2.2.2.2.1, x.2.2.2.2.2.1⟩ : Mx), fun r => (r, ())⟩
noncomputable def code_laws_FnExactEqualMatrices : Code := Try.f7.body.getD .skip
noncomputable def E_laws_FnExactEqualMatrices : Env := ⟨lay, [(23, c_laws_szMatrix), (25, c_laws_toMatrix), (24, c_spec_EqualMatrices), (26, c_impl_EqualMatrices), (27, c_laws_eqMatrix)], [], [(8, [(0, []), (2, []), (1, [0]), (3, [2, 1, 0]), (4, [1, 3, 0, 2]), (5, [4, 0, 1, 2, 3])]), (14, [(0, []), (1, []), (2, [1]), (3, [0, 2, 1]), (4, [])]), (16, [(0, []), (1, []), (2, [1]), (3, [0, 2, 1]), (4, [])])]⟩
theorem cons_laws_FnExactEqualMatrices : ConsOk Try.prog E_laws_FnExactEqualMatrices.cons := consOk_cons m_laws_szMatrix (callable_of Try.func23 (by kernel_rfl)) (consOk_cons m_laws_toMatrix (callable_of Try.func25 (by kernel_rfl)) (consOk_cons m_spec_EqualMatrices (callable_of Try.func24 (by kernel_rfl)) (consOk_cons m_impl_EqualMatrices (callable_of Try.func26 (by kernel_rfl)) (consOk_cons m_laws_eqMatrix (callable_of Try.func27 (by kernel_rfl)) (consOk_nil)))))
theorem loops_laws_FnExactEqualMatrices : loopsIn code_laws_FnExactEqualMatrices = [] := by kernel_rfl
theorem m_laws_FnExactEqualMatrices : Meets Try.prog 7 c_laws_FnExactEqualMatrices := meets_of (E := E_laws_FnExactEqualMatrices) (code := code_laws_FnExactEqualMatrices) mix lay_ok cons_laws_FnExactEqualMatrices Try.func7 (by kernel_rfl) sg_laws_FnExactEqualMatrices (by kernel_rfl) (fun y => y.1) c_laws_FnExactEqualMatrices.out (fun _ => rfl) c_laws_FnExactEqualMatrices.run (fun x => by kernel_rfl) (by kernel_rfl) (loops_mem loops_laws_FnExactEqualMatrices (trivial))
end Go.Proofs.Ytalnijffcoppkaa.WEqualMatrices
