/-
  Own work: part 4 of the texts that the proof of the given statement leans on.
-/
import Derived.Test.YtalnijffcoppkaaProg
import Derived.Test.YtalnijffcoppkaaZFindStationP02
/-
  Own work, written by program (gen.py): the functions that the statement reaches meet their contracts.
-/
open Go Go.Di Go.Proofs
namespace Go.Proofs.Ytalnijffcoppkaa.WFindStation
noncomputable def lay : List (TypeId × TI) := [
  (3, ⟨false, [.d (.int .i64 0)], [], none, some (.int .i64), false⟩),
  (4, ⟨false, [.d (.bool false)], [], none, some .bool, false⟩),
  (9, ⟨false, [.d (.str ByteArray.empty)], [], none, some .str, false⟩),
  (31, ⟨false, [.mt], [], some .sta, none, false⟩),
  (33, ⟨true, [.d (.bool false), .mt], [(0, 1, false), (1, 1, false)], none, none, true⟩),
  (36, ⟨false, [.mt], [], some .sta, none, false⟩),
  (38, ⟨true, [.d (.bool false), .mt], [(0, 1, false), (1, 1, false)], none, none, true⟩),
  (56, ⟨false, [.mt], [], some .int, none, false⟩),
  (58, ⟨true, [.d (.bool false), .mt], [(0, 1, false), (1, 1, false)], none, none, true⟩),
  (60, ⟨true, [.d (.bool false), .mt, .mt], [(0, 2, true), (2, 1, false)], none, none, true⟩),
  (64, ⟨true, [.d (.bool false), .mt], [(0, 1, false), (1, 1, false)], none, none, true⟩),
  (66, ⟨true, [.d (.bool false), .mt, .mt], [(0, 2, true), (2, 1, false)], none, none, true⟩),
  (74, ⟨true, [.d (.str ByteArray.empty), .d (.bool false), .mt, .mt, .d (.bool false), .mt, .mt, .d (.bool false)], [(0, 1, false), (1, 3, true), (4, 3, true), (7, 1, false)], none, none, true⟩),
  (85, ⟨true, [.d (.str ByteArray.empty), .d (.bool false), .mt, .mt, .d (.bool false), .mt, .mt, .d (.bool false)], [(0, 1, false), (1, 3, true), (4, 3, true), (7, 1, false)], none, none, true⟩)]
theorem lay_ok : LayOk Try.prog lay := layOk_ok (by kernel_rfl)
theorem mix : Try.prog.follows .mixedOrders = true := by kernel_rfl

noncomputable def sg_laws_szIntS : Sig := ⟨[(false, [.sl .int]), (false, [.int .i64])], false, [(false, [.data (.int .i64)])]⟩
noncomputable def c_laws_szIntS : Con := ⟨sg_laws_szIntS, Int, fun x => M_laws_szIntS x.1 x.2.1, fun r => (r, ())⟩
noncomputable def code_laws_szIntS : Code := Try.f56.body.getD .skip
noncomputable def E_laws_szIntS : Env := ⟨lay, [], [], []⟩
theorem cons_laws_szIntS : ConsOk Try.prog E_laws_szIntS.cons := consOk_nil
theorem loops_laws_szIntS : loopsIn code_laws_szIntS = [] := by kernel_rfl
theorem m_laws_szIntS : Meets Try.prog 56 c_laws_szIntS := meets_of (E := E_laws_szIntS) (code := code_laws_szIntS) mix lay_ok cons_laws_szIntS Try.func56 (by kernel_rfl) sg_laws_szIntS (by kernel_rfl) (fun y => y.1) c_laws_szIntS.out (fun _ => rfl) c_laws_szIntS.run (fun x => by kernel_rfl) (by kernel_rfl) (loops_mem loops_laws_szIntS (trivial))

noncomputable def sg_laws_szBigInt : Sig := ⟨[(true, [.bool, .sl .int]), (false, [.int .i64])], false, [(false, [.data (.int .i64)])]⟩
noncomputable def c_laws_szBigInt : Con := ⟨sg_laws_szBigInt, Int, fun x => M_laws_szBigInt (⟨x.1, x.2.1⟩ : Bg) x.2.2.1, fun r => (r, ())⟩
noncomputable def code_laws_szBigInt : Code := Try.f55.body.getD .skip
noncomputable def E_laws_szBigInt : Env := ⟨lay, [(56, c_laws_szIntS)], [], []⟩
theorem cons_laws_szBigInt : ConsOk Try.prog E_laws_szBigInt.cons := consOk_cons m_laws_szIntS (callable_of Try.func56 (by kernel_rfl)) (consOk_nil)
theorem loops_laws_szBigInt : loopsIn code_laws_szBigInt = [] := by kernel_rfl
theorem m_laws_szBigInt : Meets Try.prog 55 c_laws_szBigInt := meets_of (E := E_laws_szBigInt) (code := code_laws_szBigInt) mix lay_ok cons_laws_szBigInt Try.func55 (by kernel_rfl) sg_laws_szBigInt (by kernel_rfl) (fun y => y.1) c_laws_szBigInt.out (fun _ => rfl) c_laws_szBigInt.run (fun x => by kernel_rfl) (by kernel_rfl) (loops_mem loops_laws_szBigInt (trivial))

noncomputable def sg_laws_szRat : Sig := ⟨[(true, [.bool, .sl .int, .sl .int]), (false, [.int .i64])], false, [(false, [.data (.int .i64)])]⟩
noncomputable def c_laws_szRat : Con := ⟨sg_laws_szRat, Int, fun x => M_laws_szRat (⟨x.1, x.2.1, x.2.2.1⟩ : Rt) x.2.2.2.1, fun r => (r, ())⟩
noncomputable def code_laws_szRat : Code := Try.f46.body.getD .skip
noncomputable def E_laws_szRat : Env := ⟨lay, [(55, c_laws_szBigInt), (56, c_laws_szIntS)], [], []⟩
theorem cons_laws_szRat : ConsOk Try.prog E_laws_szRat.cons := consOk_cons m_laws_szBigInt (callable_of Try.func55 (by kernel_rfl)) (consOk_cons m_laws_szIntS (callable_of Try.func56 (by kernel_rfl)) (consOk_nil))
theorem loops_laws_szRat : loopsIn code_laws_szRat = [] := by kernel_rfl
theorem m_laws_szRat : Meets Try.prog 46 c_laws_szRat := meets_of (E := E_laws_szRat) (code := code_laws_szRat) mix lay_ok cons_laws_szRat Try.func46 (by kernel_rfl) sg_laws_szRat (by kernel_rfl) (fun y => y.1) c_laws_szRat.out (fun _ => rfl) c_laws_szRat.run (fun x => by kernel_rfl) (by kernel_rfl) (loops_mem loops_laws_szRat (trivial))

noncomputable def sg_laws_szStation : Sig := ⟨[(true, [.str, .bool, .sl .int, .sl .int, .bool, .sl .int, .sl .int, .bool]), (false, [.int .i64])], false, [(false, [.data (.int .i64)])]⟩
noncomputable def c_laws_szStation : Con := ⟨sg_laws_szStation, Int, fun x => M_laws_szStation (⟨x.1, (⟨x.2.1, x.2.2.1, x.2.2.2.1⟩ : Rt), (⟨x.2.2.2.2.1, x.2.2.2.2.2.1, x.2.2.2.2.2.2.1⟩ : Rt), x.2.2.2.2.2.2.2.1⟩ : Sta) x.2.2.2.2.2.2.2.2.1, fun r => (r, ())⟩
noncomputable def code_laws_szStation : Code := Try.f50.body.getD .skip
noncomputable def E_laws_szStation : Env := ⟨lay, [(46, c_laws_szRat)], [], []⟩
theorem cons_laws_szStation : ConsOk Try.prog E_laws_szStation.cons := consOk_cons m_laws_szRat (callable_of Try.func46 (by kernel_rfl)) (consOk_nil)
theorem loops_laws_szStation : loopsIn code_laws_szStation = [] := by kernel_rfl
theorem m_laws_szStation : Meets Try.prog 50 c_laws_szStation := meets_of (E := E_laws_szStation) (code := code_laws_szStation) mix lay_ok cons_laws_szStation Try.func50 (by kernel_rfl) sg_laws_szStation (by kernel_rfl) (fun y => y.1) c_laws_szStation.out (fun _ => rfl) c_laws_szStation.run (fun x => by kernel_rfl) (by kernel_rfl) (loops_mem loops_laws_szStation (trivial))

noncomputable def sg_laws_szStationS : Sig := ⟨[(false, [.sl .sta]), (false, [.int .i64])], false, [(false, [.data (.int .i64)])]⟩
noncomputable def c_laws_szStationS : Con := ⟨sg_laws_szStationS, Int, fun x => M_laws_szStationS x.1 x.2.1, fun r => (r, ())⟩
noncomputable def code_laws_szStationS : Code := Try.f36.body.getD .skip
noncomputable def body_laws_szStationS_0 : Code := (loopsIn code_laws_szStationS).getD 0 .skip
noncomputable def D_laws_szStationS_0 : LoopD := ⟨⟨mkSlots [(0, false, [.d (.sl .sta)]), (1, false, [.d (.int .i64)]), (5, false, [.d (.int .i64)])] 27 0, []⟩, [], [(.ret, ⟨mkSlots [(4, false, [.d (.int .i64)])] 27 0, []⟩, []), (.exit 0, ⟨mkSlots [(1, false, [.d (.int .i64)])] 27 0, []⟩, [])]⟩
noncomputable def S_laws_szStationS_0_w (x : Tys D_laws_szStationS_0.head.ks) : Option (OutT D_laws_szStationS_0.outs) := @whileO ((List Sta) × Int × Int × Unit) ((Int × Unit) ⊕ (Int × Unit)) S_laws_szStationS_0 x
noncomputable def E_laws_szStationS : Env := ⟨lay, [(50, c_laws_szStation)], [(5, mkLM D_laws_szStationS_0 S_laws_szStationS_0_w)], []⟩
theorem cons_laws_szStationS : ConsOk Try.prog E_laws_szStationS.cons := consOk_cons m_laws_szStation (callable_of Try.func50 (by kernel_rfl)) (consOk_nil)
theorem S_laws_szStationS_0_ok (x : Tys D_laws_szStationS_0.head.ks) : stepL E_laws_szStationS D_laws_szStationS_0 body_laws_szStationS_0 x = S_laws_szStationS_0 x := by kernel_rfl
theorem loops_laws_szStationS_0 : loopsIn body_laws_szStationS_0 = [] := by kernel_rfl
theorem l_laws_szStationS_0 : LoopOk Try.prog (mkLM D_laws_szStationS_0 S_laws_szStationS_0_w) body_laws_szStationS_0 := loop_ok2 mix lay_ok cons_laws_szStationS (by kernel_rfl) (loops_mem loops_laws_szStationS_0 (trivial)) S_laws_szStationS_0_ok fun _ _ h => h
theorem loops_laws_szStationS : loopsIn code_laws_szStationS = [body_laws_szStationS_0] := by kernel_rfl
theorem m_laws_szStationS : Meets Try.prog 36 c_laws_szStationS := meets_of (E := E_laws_szStationS) (code := code_laws_szStationS) mix lay_ok cons_laws_szStationS Try.func36 (by kernel_rfl) sg_laws_szStationS (by kernel_rfl) (fun y => y.1) c_laws_szStationS.out (fun _ => rfl) c_laws_szStationS.run (fun x => by kernel_rfl) (by kernel_rfl) (loops_mem loops_laws_szStationS (⟨⟨_, by kernel_rfl, l_laws_szStationS_0⟩, trivial⟩))

noncomputable def sg_laws_szNetwork : Sig := ⟨[(true, [.bool, .sl .sta]), (false, [.int .i64])], false, [(false, [.data (.int .i64)])]⟩
noncomputable def c_laws_szNetwork : Con := ⟨sg_laws_szNetwork, Int, fun x => M_laws_szNetwork (⟨x.1, x.2.1⟩ : Net) x.2.2.1, fun r => (r, ())⟩
noncomputable def code_laws_szNetwork : Code := Try.f18.body.getD .skip
noncomputable def E_laws_szNetwork : Env := ⟨lay, [(36, c_laws_szStationS)], [], []⟩
theorem cons_laws_szNetwork : ConsOk Try.prog E_laws_szNetwork.cons := consOk_cons m_laws_szStationS (callable_of Try.func36 (by kernel_rfl)) (consOk_nil)
theorem loops_laws_szNetwork : loopsIn code_laws_szNetwork = [] := by kernel_rfl
theorem m_laws_szNetwork : Meets Try.prog 18 c_laws_szNetwork := meets_of (E := E_laws_szNetwork) (code := code_laws_szNetwork) mix lay_ok cons_laws_szNetwork Try.func18 (by kernel_rfl) sg_laws_szNetwork (by kernel_rfl) (fun y => y.1) c_laws_szNetwork.out (fun _ => rfl) c_laws_szNetwork.run (fun x => by kernel_rfl) (by kernel_rfl) (loops_mem loops_laws_szNetwork (trivial))

noncomputable def sg_laws_toIntS : Sig := ⟨[(false, [.sl .int])], false, [(false, [.fresh .int])]⟩
noncomputable def c_laws_toIntS : Con := ⟨sg_laws_toIntS, List Int, fun x => M_laws_toIntS x.1, fun r => (r, ())⟩
noncomputable def code_laws_toIntS : Code := Try.f58.body.getD .skip
noncomputable def body_laws_toIntS_0 : Code := (loopsIn code_laws_toIntS).getD 0 .skip
noncomputable def D_laws_toIntS_0 : LoopD := ⟨⟨mkSlots [(0, false, [.d (.sl .int)]), (3, false, [.own 736]), (4, false, [.d (.int .i64)])] 22 0, [(736, .arr false .int)]⟩, [], [(.exit 0, ⟨mkSlots [(3, false, [.own 736])] 22 0, [(736, .arr false .int)]⟩, [])]⟩
noncomputable def S_laws_toIntS_0_w (x : Tys D_laws_toIntS_0.head.ks) : Option (OutT D_laws_toIntS_0.outs) := @whileO ((List Int) × Int × (List Int) × Unit) ((List Int) × Unit) S_laws_toIntS_0 x
noncomputable def E_laws_toIntS : Env := ⟨lay, [], [(3, mkLM D_laws_toIntS_0 S_laws_toIntS_0_w)], []⟩
theorem cons_laws_toIntS : ConsOk Try.prog E_laws_toIntS.cons := consOk_nil
theorem S_laws_toIntS_0_ok (x : Tys D_laws_toIntS_0.head.ks) : stepL E_laws_toIntS D_laws_toIntS_0 body_laws_toIntS_0 x = S_laws_toIntS_0 x := by kernel_rfl
theorem loops_laws_toIntS_0 : loopsIn body_laws_toIntS_0 = [] := by kernel_rfl
theorem l_laws_toIntS_0 : LoopOk Try.prog (mkLM D_laws_toIntS_0 S_laws_toIntS_0_w) body_laws_toIntS_0 := loop_ok2 mix lay_ok cons_laws_toIntS (by kernel_rfl) (loops_mem loops_laws_toIntS_0 (trivial)) S_laws_toIntS_0_ok fun _ _ h => h
theorem loops_laws_toIntS : loopsIn code_laws_toIntS = [body_laws_toIntS_0] := by kernel_rfl
theorem m_laws_toIntS : Meets Try.prog 58 c_laws_toIntS := meets_of (E := E_laws_toIntS) (code := code_laws_toIntS) mix lay_ok cons_laws_toIntS Try.func58 (by kernel_rfl) sg_laws_toIntS (by kernel_rfl) (fun y => y.1) c_laws_toIntS.out (fun _ => rfl) c_laws_toIntS.run (fun x => by kernel_rfl) (by kernel_rfl) (loops_mem loops_laws_toIntS (⟨⟨_, by kernel_rfl, l_laws_toIntS_0⟩, trivial⟩))

noncomputable def sg_laws_toBigInt : Sig := ⟨[(true, [.bool, .sl .int])], false, [(true, [.data (.bool), .fresh .int])]⟩
noncomputable def c_laws_toBigInt : Con := ⟨sg_laws_toBigInt, Bg, fun x => M_laws_toBigInt (⟨x.1, x.2.1⟩ : Bg), fun r => (r.neg, r.mag, ())⟩
noncomputable def code_laws_toBigInt : Code := Try.f57.body.getD .skip
noncomputable def E_laws_toBigInt : Env := ⟨lay, [(58, c_laws_toIntS)], [], []⟩
theorem cons_laws_toBigInt : ConsOk Try.prog E_laws_toBigInt.cons := consOk_cons m_laws_toIntS (callable_of Try.func58 (by kernel_rfl)) (consOk_nil)
theorem loops_laws_toBigInt : loopsIn code_laws_toBigInt = [] := by kernel_rfl
theorem m_laws_toBigInt : Meets Try.prog 57 c_laws_toBigInt := meets_of (E := E_laws_toBigInt) (code := code_laws_toBigInt) mix lay_ok cons_laws_toBigInt Try.func57 (by kernel_rfl) sg_laws_toBigInt (by kernel_rfl) (fun y => (⟨y.1, y.2.1⟩ : Bg)) c_laws_toBigInt.out (fun _ => rfl) c_laws_toBigInt.run (fun x => by kernel_rfl) (by kernel_rfl) (loops_mem loops_laws_toBigInt (trivial))

noncomputable def sg_laws_toRat : Sig := ⟨[(true, [.bool, .sl .int, .sl .int])], false, [(true, [.data (.bool), .fresh .int, .fresh .int])]⟩
noncomputable def c_laws_toRat : Con := ⟨sg_laws_toRat, Rt, fun x => M_laws_toRat (⟨x.1, x.2.1, x.2.2.1⟩ : Rt), fun r => (r.neg, r.mag, r.den, ())⟩
noncomputable def code_laws_toRat : Code := Try.f47.body.getD .skip
noncomputable def E_laws_toRat : Env := ⟨lay, [(57, c_laws_toBigInt), (58, c_laws_toIntS)], [], []⟩
theorem cons_laws_toRat : ConsOk Try.prog E_laws_toRat.cons := consOk_cons m_laws_toBigInt (callable_of Try.func57 (by kernel_rfl)) (consOk_cons m_laws_toIntS (callable_of Try.func58 (by kernel_rfl)) (consOk_nil))
theorem loops_laws_toRat : loopsIn code_laws_toRat = [] := by kernel_rfl
theorem m_laws_toRat : Meets Try.prog 47 c_laws_toRat := meets_of (E := E_laws_toRat) (code := code_laws_toRat) mix lay_ok cons_laws_toRat Try.func47 (by kernel_rfl) sg_laws_toRat (by kernel_rfl) (fun y => (⟨y.1, y.2.1, y.2.2.1⟩ : Rt)) c_laws_toRat.out (fun _ => rfl) c_laws_toRat.run (fun x => by kernel_rfl) (by kernel_rfl) (loops_mem loops_laws_toRat (trivial))

noncomputable def sg_laws_toStation : Sig := ⟨[(true, [.str, .bool, .sl .int, .sl .int, .bool, .sl .int, .sl .int, .bool])], false, [(true, [.data (.str), .data (.bool), .fresh .int, .fresh .int, .data (.bool), .fresh .int, .fresh .int, .data (.bool)])]⟩
noncomputable def c_laws_toStation : Con := ⟨sg_laws_toStation, Sta, fun x => M_laws_toStation (⟨x.1, (⟨x.2.1, x.2.2.1, x.2.2.2.1⟩ : Rt), (⟨x.2.2.2.2.1, x.2.2.2.2.2.1, x.2.2.2.2.2.2.1⟩ : Rt), x.2.2.2.2.2.2.2.1⟩ : Sta), fun r => (r.name, r.x.neg, r.x.mag, r.x.den, r.y.neg, r.y.mag, r.y.den, r.fixed, ())⟩
noncomputable def code_laws_toStation : Code := Try.f51.body.getD .skip
noncomputable def E_laws_toStation : Env := ⟨lay, [(47, c_laws_toRat)], [], []⟩
theorem cons_laws_toStation : ConsOk Try.prog E_laws_toStation.cons := consOk_cons m_laws_toRat (callable_of Try.func47 (by kernel_rfl)) (consOk_nil)
theorem loops_laws_toStation : loopsIn code_laws_toStation = [] := by kernel_rfl
theorem m_laws_toStation : Meets Try.prog 51 c_laws_toStation := meets_of (E := E_laws_toStation) (code := code_laws_toStation) mix lay_ok cons_laws_toStation Try.func51 (by kernel_rfl) sg_laws_toStation (by kernel_rfl) (fun y => (⟨y.1, (⟨y.2.1, y.2.2.1, y.2.2.2.1⟩ : Rt), (⟨y.2.2.2.2.1, y.2.2.2.2.2.1, y.2.2.2.2.2.2.1⟩ : Rt), y.2.2.2.2.2.2.2.1⟩ : Sta)) c_laws_toStation.out (fun _ => rfl) c_laws_toStation.run (fun x => by kernel_rfl) (by kernel_rfl) (loops_mem loops_laws_toStation (trivial))

noncomputable def sg_laws_toStationS : Sig := ⟨[(false, [.sl .sta])], false, [(false, [.fresh .sta])]⟩
noncomputable def c_laws_toStationS : Con := ⟨sg_laws_toStationS, List Sta, fun x => M_laws_toStationS x.1, fun r => (r, ())⟩
noncomputable def code_laws_toStationS : Code := Try.f37.body.getD .skip
noncomputable def body_laws_toStationS_0 : Code := (loopsIn code_laws_toStationS).getD 0 .skip
noncomputable def D_laws_toStationS_0 : LoopD := ⟨⟨mkSlots [(0, false, [.d (.sl .sta)]), (3, false, [.own 768]), (4, false, [.d (.int .i64)])] 23 0, [(768, .arr false .sta)]⟩, [], [(.exit 0, ⟨mkSlots [(3, false, [.own 768])] 23 0, [(768, .arr false .sta)]⟩, [])]⟩
noncomputable def S_laws_toStationS_0_w (x : Tys D_laws_toStationS_0.head.ks) : Option (OutT D_laws_toStationS_0.outs) := @whileO ((List Sta) × Int × (List Sta) × Unit) ((List Sta) × Unit) S_laws_toStationS_0 x
noncomputable def E_laws_toStationS : Env := ⟨lay, [(51, c_laws_toStation)], [(3, mkLM D_laws_toStationS_0 S_laws_toStationS_0_w)], []⟩
theorem cons_laws_toStationS : ConsOk Try.prog E_laws_toStationS.cons := consOk_cons m_laws_toStation (callable_of Try.func51 (by kernel_rfl)) (consOk_nil)
theorem S_laws_toStationS_0_ok (x : Tys D_laws_toStationS_0.head.ks) : stepL E_laws_toStationS D_laws_toStationS_0 body_laws_toStationS_0 x = S_laws_toStationS_0 x := by kernel_rfl
theorem loops_laws_toStationS_0 : loopsIn body_laws_toStationS_0 = [] := by kernel_rfl
theorem l_laws_toStationS_0 : LoopOk Try.prog (mkLM D_laws_toStationS_0 S_laws_toStationS_0_w) body_laws_toStationS_0 := loop_ok2 mix lay_ok cons_laws_toStationS (by kernel_rfl) (loops_mem loops_laws_toStationS_0 (trivial)) S_laws_toStationS_0_ok fun _ _ h => h
theorem loops_laws_toStationS : loopsIn code_laws_toStationS = [body_laws_toStationS_0] := by kernel_rfl
theorem m_laws_toStationS : Meets Try.prog 37 c_laws_toStationS := meets_of (E := E_laws_toStationS) (code := code_laws_toStationS) mix lay_ok cons_laws_toStationS Try.func37 (by kernel_rfl) sg_laws_toStationS (by kernel_rfl) (fun y => y.1) c_laws_toStationS.out (fun _ => rfl) c_laws_toStationS.run (fun x => by kernel_rfl) (by kernel_rfl) (loops_mem loops_laws_toStationS (⟨⟨_, by kernel_rfl, l_laws_toStationS_0⟩, trivial⟩))

noncomputable def sg_laws_toNetwork : Sig := ⟨[(true, [.bool, .sl .sta])], false, [(true, [.data (.bool), .fresh .sta])]⟩
noncomputable def c_laws_toNetwork : Con := ⟨sg_laws_toNetwork, Net, fun x => M_laws_toNetwork (⟨x.1, x.2.1⟩ : Net), fun r => (r.plane, r.stations, ())⟩
noncomputable def code_laws_toNetwork : Code := Try.f20.body.getD .skip
noncomputable def E_laws_toNetwork : Env := ⟨lay, [(37, c_laws_toStationS)], [], []⟩
theorem cons_laws_toNetwork : ConsOk Try.prog E_laws_toNetwork.cons := consOk_cons m_laws_toStationS (callable_of Try.func37 (by kernel_rfl)) (consOk_nil)
theorem loops_laws_toNetwork : loopsIn code_laws_toNetwork = [] := by kernel_rfl
theorem m_laws_toNetwork : Meets Try.prog 20 c_laws_toNetwork := meets_of (E := E_laws_toNetwork) (code := code_laws_toNetwork) mix lay_ok cons_laws_toNetwork Try.func20 (by kernel_rfl) sg_laws_toNetwork (by kernel_rfl) (fun y => (⟨y.1, y.2.1⟩ : Net)) c_laws_toNetwork.out (fun _ => rfl) c_laws_toNetwork.run (fun x => by kernel_rfl) (by kernel_rfl) (loops_mem loops_laws_toNetwork (trivial))

noncomputable def sg_spec_FindStation : Sig := ⟨[(true, [.bool, .sl .sta]), (false, [.str])], false, [(false, [.data (.int .i64)])]⟩
noncomputable def c_spec_FindStation : Con := ⟨sg_spec_FindStation, Int, fun x => M_spec_FindStation (⟨x.1, x.2.1⟩ : Net) x.2.2.1, fun r => (r, ())⟩
noncomputable def code_spec_FindStation : Code := Try.f19.body.getD .skip
noncomputable def body_spec_FindStation_0 : Code := (loopsIn code_spec_FindStation).getD 0 .skip
noncomputable def D_spec_FindStation_0 : LoopD := ⟨⟨mkSlots [(1, false, [.d (.str)]), (8, false, [.d (.sl .sta)]), (9, false, [.d (.int .i64)]), (10, false, [.d (.int .i64)])] 21 0, []⟩, [], [(.ret, ⟨mkSlots [(4, false, [.d (.int .i64)])] 21 0, []⟩, []), (.exit 0, ⟨mkSlots [] 21 0, []⟩, [])]⟩
noncomputable def S_spec_FindStation_0_w (x : Tys D_spec_FindStation_0.head.ks) : Option (OutT D_spec_FindStation_0.outs) := @whileO (ByteArray × (List Sta) × Int × Int × Unit) ((Int × Unit) ⊕ (Unit)) S_spec_FindStation_0 x
noncomputable def E_spec_FindStation : Env := ⟨lay, [], [(2, mkLM D_spec_FindStation_0 S_spec_FindStation_0_w)], []⟩
theorem cons_spec_FindStation : ConsOk Try.prog E_spec_FindStation.cons := consOk_nil
theorem S_spec_FindStation_0_ok (x : Tys D_spec_FindStation_0.head.ks) : stepL E_spec_FindStation D_spec_FindStation_0 body_spec_FindStation_0 x = S_spec_FindStation_0 x := by kernel_rfl
theorem loops_spec_FindStation_0 : loopsIn body_spec_FindStation_0 = [] := by kernel_rfl
theorem l_spec_FindStation_0 : LoopOk Try.prog (mkLM D_spec_FindStation_0 S_spec_FindStation_0_w) body_spec_FindStation_0 := loop_ok2 mix lay_ok cons_spec_FindStation (by kernel_rfl) (loops_mem loops_spec_FindStation_0 (trivial)) S_spec_FindStation_0_ok fun _ _ h => h
theorem loops_spec_FindStation : loopsIn code_spec_FindStation = [body_spec_FindStation_0] := by kernel_rfl
theorem m_spec_FindStation : Meets Try.prog 19 c_spec_FindStation := meets_of (E := E_spec_FindStation) (code := code_spec_FindStation) mix lay_ok cons_spec_FindStation Try.func19 (by kernel_rfl) sg_spec_FindStation (by kernel_rfl) (fun y => y.1) c_spec_FindStation.out (fun _ => rfl) c_spec_FindStation.run (fun x => by kernel_rfl) (by kernel_rfl) (loops_mem loops_spec_FindStation (⟨⟨_, by kernel_rfl, l_spec_FindStation_0⟩, trivial⟩))

noncomputable def sg_impl_FindStation : Sig := ⟨[(true, [.bool, .sl .sta]), (false, [.str])], false, [(false, [.data (.int .i64)])]⟩
noncomputable def c_impl_FindStation : Con := ⟨sg_impl_FindStation, Int, fun x => M_impl_FindStation (⟨x.1, x.2.1⟩ : Net) x.2.2.1, fun r => (r, ())⟩
noncomputable def code_impl_FindStation : Code := Try.f21.body.getD .skip
noncomputable def body_impl_FindStation_0 : Code := (loopsIn code_impl_FindStation).getD 0 .skip
noncomputable def D_impl_FindStation_0 : LoopD := ⟨⟨mkSlots [(1, false, [.d (.str)]), (8, false, [.d (.sl .sta)]), (9, false, [.d (.int .i64)]), (10, false, [.d (.int .i64)])] 21 0, []⟩, [], [(.ret, ⟨mkSlots [(4, false, [.d (.int .i64)])] 21 0, []⟩, []), (.exit 0, ⟨mkSlots [] 21 0, []⟩, [])]⟩
noncomputable def S_impl_FindStation_0_w (x : Tys D_impl_FindStation_0.head.ks) : Option (OutT D_impl_FindStation_0.outs) := @whileO (ByteArray × (List Sta) × Int × Int × Unit) ((Int × Unit) ⊕ (Unit)) S_impl_FindStation_0 x
noncomputable def E_impl_FindStation : Env := ⟨lay, [], [(2, mkLM D_impl_FindStation_0 S_impl_FindStation_0_w)], []⟩
theorem cons_impl_FindStation : ConsOk Try.prog E_impl_FindStation.cons := consOk_nil
theorem S_impl_FindStation_0_ok (x : Tys D_impl_FindStation_0.head.ks) : stepL E_impl_FindStation D_impl_FindStation_0 body_impl_FindStation_0 x = S_impl_FindStation_0 x := by kernel_rfl
theorem loops_impl_FindStation_0 : loopsIn body_impl_FindStation_0 = [] := by kernel_rfl
theorem l_impl_FindStation_0 : LoopOk Try.prog (mkLM D_impl_FindStation_0 S_impl_FindStation_0_w) body_impl_FindStation_0 := loop_ok2 mix lay_ok cons_impl_FindStation (by kernel_rfl) (loops_mem loops_impl_FindStation_0 (trivial)) S_impl_FindStation_0_ok fun _ _ h => h
theorem loops_impl_FindStation : loopsIn code_impl_FindStation = [body_impl_FindStation_0] := by kernel_rfl
theorem m_impl_FindStation : Meets Try.prog 21 c_impl_FindStation := meets_of (E := E_impl_FindStation) (code := code_impl_FindStation) mix lay_ok cons_impl_FindStation Try.func21 (by kernel_rfl) sg_impl_FindStation (by kernel_rfl) (fun y => y.1) c_impl_FindStation.out (fun _ => rfl) c_impl_FindStation.run (fun x => by kernel_rfl) (by kernel_rfl) (loops_mem loops_impl_FindStation (⟨⟨_, by kernel_rfl, l_impl_FindStation_0⟩, trivial⟩))

noncomputable def sg_laws_eqIntS : Sig := ⟨[(false, [.sl .int]), (false, [.sl .int])], false, [(false, [.data (.bool)])]⟩
noncomputable def c_laws_eqIntS : Con := ⟨sg_laws_eqIntS, Bool, fun x => M_laws_eqIntS x.1 x.2.1, fun r => (r, ())⟩
noncomputable def code_laws_eqIntS : Code := Try.f60.body.getD .skip
noncomputable def body_laws_eqIntS_0 : Code := (loopsIn code_laws_eqIntS).getD 0 .skip
noncomputable def D_laws_eqIntS_0 : LoopD := ⟨⟨mkSlots [(0, false, [.d (.sl .int)]), (1, false, [.d (.sl .int)]), (5, false, [.d (.int .i64)])] 26 0, []⟩, [], [(.ret, ⟨mkSlots [(4, false, [.d (.bool)])] 26 0, []⟩, []), (.exit 0, ⟨mkSlots [] 26 0, []⟩, [])]⟩
noncomputable def S_laws_eqIntS_0_w (x : Tys D_laws_eqIntS_0.head.ks) : Option (OutT D_laws_eqIntS_0.outs) := @whileO ((List Int) × (List Int) × Int × Unit) ((Bool × Unit) ⊕ (Unit)) S_laws_eqIntS_0 x
noncomputable def E_laws_eqIntS : Env := ⟨lay, [], [(4, mkLM D_laws_eqIntS_0 S_laws_eqIntS_0_w)], [(6, [(0, []), (1, []), (2, []), (3, []), (4, []), (5, []), (6, []), (7, []), (8, [])])]⟩
theorem cons_laws_eqIntS : ConsOk Try.prog E_laws_eqIntS.cons := consOk_nil
theorem S_laws_eqIntS_0_ok (x : Tys D_laws_eqIntS_0.head.ks) : stepL E_laws_eqIntS D_laws_eqIntS_0 body_laws_eqIntS_0 x = S_laws_eqIntS_0 x := by kernel_rfl
theorem loops_laws_eqIntS_0 : loopsIn body_laws_eqIntS_0 = [] := by kernel_rfl
theorem l_laws_eqIntS_0 : LoopOk Try.prog (mkLM D_laws_eqIntS_0 S_laws_eqIntS_0_w) body_laws_eqIntS_0 := loop_ok2 mix lay_ok cons_laws_eqIntS (by kernel_rfl) (loops_mem loops_laws_eqIntS_0 (trivial)) S_laws_eqIntS_0_ok fun _ _ h => h
theorem loops_laws_eqIntS : loopsIn code_laws_eqIntS = [body_laws_eqIntS_0] := by kernel_rfl
theorem m_laws_eqIntS : Meets Try.prog 60 c_laws_eqIntS := meets_of (E := E_laws_eqIntS) (code := code_laws_eqIntS) mix lay_ok cons_laws_eqIntS Try.func60 (by kernel_rfl) sg_laws_eqIntS (by kernel_rfl) (fun y => y.1) c_laws_eqIntS.out (fun _ => rfl) c_laws_eqIntS.run (fun x => by kernel_rfl) (by kernel_rfl) (loops_mem loops_laws_eqIntS (⟨⟨_, by kernel_rfl, l_laws_eqIntS_0⟩, trivial⟩))

noncomputable def sg_laws_eqBigInt : Sig := ⟨[(true, [.bool, .sl .int]), (true, [.bool, .sl .int])], false, [(false, [.data (.bool)])]⟩
noncomputable def c_laws_eqBigInt : Con := ⟨sg_laws_eqBigInt, Bool, fun x => M_laws_eqBigInt (⟨x.1, x.2.1⟩ : Bg) (⟨x.2.2.1, x.2.2.2.1⟩ : Bg), fun r => (r, ())⟩
noncomputable def code_laws_eqBigInt : Code := Try.f59.body.getD .skip
noncomputable def E_laws_eqBigInt : Env := ⟨lay, [(60, c_laws_eqIntS)], [], []⟩
theorem cons_laws_eqBigInt : ConsOk Try.prog E_laws_eqBigInt.cons := consOk_cons m_laws_eqIntS (callable_of Try.func60 (by kernel_rfl)) (consOk_nil)
theorem loops_laws_eqBigInt : loopsIn code_laws_eqBigInt = [] := by kernel_rfl
theorem m_laws_eqBigInt : Meets Try.prog 59 c_laws_eqBigInt := meets_of (E := E_laws_eqBigInt) (code := code_laws_eqBigInt) mix lay_ok cons_laws_eqBigInt Try.func59 (by kernel_rfl) sg_laws_eqBigInt (by kernel_rfl) (fun y => y.1) c_laws_eqBigInt.out (fun _ => rfl) c_laws_eqBigInt.run (fun x => by kernel_rfl) (by kernel_rfl) (loops_mem loops_laws_eqBigInt (trivial))

noncomputable def sg_laws_eqRat : Sig := ⟨[(true, [.bool, .sl .int, .sl .int]), (true, [.bool, .sl .int, .sl .int])], false, [(false, [.data (.bool)])]⟩
noncomputable def c_laws_eqRat : Con := ⟨sg_laws_eqRat, Bool, fun x => M_laws_eqRat (⟨x.1, x.2.1, x.2.2.1⟩ : Rt) (⟨x.2.2.2.1, x.2.2.2.2.1, x.2.2.2.2.2.1⟩ : Rt), fun r => (r, ())⟩
noncomputable def code_laws_eqRat : Code := Try.f49.body.getD .skip
noncomputable def E_laws_eqRat : Env := ⟨lay, [(59, c_laws_eqBigInt), (60, c_laws_eqIntS)], [], []⟩
theorem cons_laws_eqRat : ConsOk Try.prog E_laws_eqRat.cons := consOk_cons m_laws_eqBigInt (callable_of Try.func59 (by kernel_rfl)) (consOk_cons m_laws_eqIntS (callable_of Try.func60 (by kernel_rfl)) (consOk_nil))
theorem loops_laws_eqRat : loopsIn code_laws_eqRat = [] := by kernel_rfl
theorem m_laws_eqRat : Meets Try.prog 49 c_laws_eqRat := meets_of (E := E_laws_eqRat) (code := code_laws_eqRat) mix lay_ok cons_laws_eqRat Try.func49 (by kernel_rfl) sg_laws_eqRat (by kernel_rfl) (fun y => y.1) c_laws_eqRat.out (fun _ => rfl) c_laws_eqRat.run (fun x => by kernel_rfl) (by kernel_rfl) (loops_mem loops_laws_eqRat (trivial))

noncomputable def sg_laws_eqStation : Sig := ⟨[(true, [.str, .bool, .sl .int, .sl .int, .bool, .sl .int, .sl .int, .bool]), (true, [.str, .bool, .sl .int, .sl .int, .bool, .sl .int, .sl .int, .bool])], false, [(false, [.data (.bool)])]⟩
noncomputable def c_laws_eqStation : Con := ⟨sg_laws_eqStation, Bool, fun x => M_laws_eqStation (⟨x.1, (⟨x.2.1, x.2.2.1, x.2.2.2.1⟩ : Rt), (⟨x.2.2.2.2.1, x.2.2.2.2.2.1, x.2.2.2.2.2.2.1⟩ : Rt), x.2.2.2.2.2.2.2.1⟩ : Sta) (⟨x.2.2.2.2.2.2.2.2.1, (⟨x.2.2.2.2.2.2.2.2.2.1, x.2.2.2.2.2.2.2.2.2.2.1, x.2.2.2.2.2.2.2.2.2.2.2.1⟩ : Rt), (⟨x.2.2.2.2.2.2.2.2.2.2.2.2.1, x.2.2.2.2.2.2.2.2.2.2.2.2.2.1, x.2.2.2.2.2.2.2.2.2.2.2.2.2.2.1⟩ : Rt), x.2.2.2.2.2.2.2.2.2.2.2.2.2.2.2.1⟩ : Sta), fun r => (r, ())⟩
noncomputable def code_laws_eqStation : Code := Try.f52.body.getD .skip
noncomputable def E_laws_eqStation : Env := ⟨lay, [(49, c_laws_eqRat)], [], []⟩
theorem cons_laws_eqStation : ConsOk Try.prog E_laws_eqStation.cons := consOk_cons m_laws_eqRat (callable_of Try.func49 (by kernel_rfl)) (consOk_nil)
theorem loops_laws_eqStation : loopsIn code_laws_eqStation = [] := by kernel_rfl
theorem m_laws_eqStation : Meets Try.prog 52 c_laws_eqStation := meets_of (E := E_laws_eqStation) (code := code_laws_eqStation) mix lay_ok cons_laws_eqStation Try.func52 (by kernel_rfl) sg_laws_eqStation (by kernel_rfl) (fun y => y.1) c_laws_eqStation.out (fun _ => rfl) c_laws_eqStation.run (fun x => by kernel_rfl) (by kernel_rfl) (loops_mem loops_laws_eqStation (trivial))

noncomputable def sg_laws_eqStationS : Sig := ⟨[(false, [.sl .sta]), (false, [.sl .sta])], false, [(false, [.data (.bool)])]⟩
noncomputable def c_laws_eqStationS : Con := ⟨sg_laws_eqStationS, Bool, fun x => M_laws_eqStationS x.1 x.2.1, fun r => (r, ())⟩
noncomputable def code_laws_eqStationS : Code := Try.f38.body.getD .skip
noncomputable def body_laws_eqStationS_0 : Code := (loopsIn code_laws_eqStationS).getD 0 .skip
noncomputable def D_laws_eqStationS_0 : LoopD := ⟨⟨mkSlots [(0, false, [.d (.sl .sta)]), (1, false, [.d (.sl .sta)]), (5, false, [.d (.int .i64)])] 27 0, []⟩, [], [(.ret, ⟨mkSlots [(4, false, [.d (.bool)])] 27 0, []⟩, []), (.exit 0, ⟨mkSlots [] 27 0, []⟩, [])]⟩
noncomputable def S_laws_eqStationS_0_w (x : Tys D_laws_eqStationS_0.head.ks) : Option (OutT D_laws_eqStationS_0.outs) := @whileO ((List Sta) × (List Sta) × Int × Unit) ((Bool × Unit) ⊕ (Unit)) S_laws_eqStationS_0 x
noncomputable def E_laws_eqStationS : Env := ⟨lay, [(52, c_laws_eqStation)], [(4, mkLM D_laws_eqStationS_0 S_laws_eqStationS_0_w)], [(6, [(0, []), (1, []), (2, []), (3, []), (4, []), (5, []), (6, []), (7, []), (8, [3, 7, 2, 6, 0, 1, 4, 5]), (9, [])])]⟩
theorem cons_laws_eqStationS : ConsOk Try.prog E_laws_eqStationS.cons := consOk_cons m_laws_eqStation (callable_of Try.func52 (by kernel_rfl)) (consOk_nil)
theorem S_laws_eqStationS_0_ok (x : Tys D_laws_eqStationS_0.head.ks) : stepL E_laws_eqStationS D_laws_eqStationS_0 body_laws_eqStationS_0 x = S_laws_eqStationS_0 x := by kernel_rfl
theorem loops_laws_eqStationS_0 : loopsIn body_laws_eqStationS_0 = [] := by kernel_rfl
theorem l_laws_eqStationS_0 : LoopOk Try.prog (mkLM D_laws_eqStationS_0 S_laws_eqStationS_0_w) body_laws_eqStationS_0 := loop_ok2 mix lay_ok cons_laws_eqStationS (by kernel_rfl) (loops_mem loops_laws_eqStationS_0 (trivial)) S_laws_eqStationS_0_ok fun _ _ h => h
theorem loops_laws_eqStationS : loopsIn code_laws_eqStationS = [body_laws_eqStationS_0] := by kernel_rfl
theorem m_laws_eqStationS : Meets Try.prog 38 c_laws_eqStationS := meets_of (E := E_laws_eqStationS) (code := code_laws_eqStationS) mix lay_ok cons_laws_eqStationS Try.func38 (by kernel_rfl) sg_laws_eqStationS (by kernel_rfl) (fun y => y.1) c_laws_eqStationS.out (fun _ => rfl) c_laws_eqStationS.run (fun x => by kernel_rfl) (by kernel_rfl) (loops_mem loops_laws_eqStationS (⟨⟨_, by kernel_rfl, l_laws_eqStationS_0⟩, trivial⟩))

noncomputable def sg_laws_eqNetwork : Sig := ⟨[(true, [.bool, .sl .sta]), (true, [.bool, .sl .sta])], false, [(false, [.data (.bool)])]⟩
noncomputable def c_laws_eqNetwork : Con := ⟨sg_laws_eqNetwork, Bool, fun x => M_laws_eqNetwork (⟨x.1, x.2.1⟩ : Net) (⟨x.2.2.1, x.2.2.2.1⟩ : Net), fun r => (r, ())⟩
noncomputable def code_laws_eqNetwork : Code := Try.f22.body.getD .skip
noncomputable def E_laws_eqNetwork : Env := ⟨lay, [(38, c_laws_eqStationS)], [], []⟩
theorem cons_laws_eqNetwork : ConsOk Try.prog E_laws_eqNetwork.cons := consOk_cons m_laws_eqStationS (callable_of Try.func38 (by kernel_rfl)) (consOk_nil)
theorem loops_laws_eqNetwork : loopsIn code_laws_eqNetwork = [] := by kernel_rfl
theorem m_laws_eqNetwork : Meets Try.prog 22 c_laws_eqNetwork := meets_of (E := E_laws_eqNetwork) (code := code_laws_eqNetwork) mix lay_ok cons_laws_eqNetwork Try.func22 (by kernel_rfl) sg_laws_eqNetwork (by kernel_rfl) (fun y => y.1) c_laws_eqNetwork.out (fun _ => rfl) c_laws_eqNetwork.run (fun x => by kernel_rfl) (by kernel_rfl) (loops_mem loops_laws_eqNetwork (trivial))

noncomputable def sg_laws_FnExactFindStation : Sig := ⟨[(true, [.bool, .sl .sta]), (false, [.str])], false, [(false, [.data (.bool)])]⟩
noncomputable def c_laws_FnExactFindStation : Con := ⟨sg_laws_FnExactFindStation, Bool, fun x => M_laws_FnExactFindStation (⟨x.1, x.2.1⟩ : Net) x.2.2.1, fun r => (r, ())⟩
noncomputable def code_laws_FnExactFindStation : Code := Try.f6.body.getD .skip
noncomputable def E_laws_FnExactFindStation : Env := ⟨lay, [(18, c_laws_szNetwork), (20, c_laws_toNetwork), (19, c_spec_FindStation), (21, c_impl_FindStation), (22, c_laws_eqNetwork)], [], [(12, [(0, []), (1, []), (2, [1]), (3, [0, 2, 1]), (4, [])])]⟩
theorem cons_laws_FnExactFindStation : ConsOk Try.prog E_laws_FnExactFindStation.cons := consOk_cons m_laws_szNetwork (callable_of Try.func18 (by kernel_rfl)) (consOk_cons m_laws_toNetwork (callable_of Try.func20 (by kernel_rfl)) (consOk_cons m_spec_FindStation (callable_of Try.func19 (by kernel_rfl)) (consOk_cons m_impl_FindStation (callable_of Try.func21 (by kernel_rfl)) (consOk_cons m_laws_eqNetwork (callable_of Try.func22 (by kernel_rfl)) (consOk_nil)))))
theorem loops_laws_FnExactFindStation : loopsIn code_laws_FnExactFindStation = [] := by kernel_rfl
theorem m_laws_FnExactFindStation : Meets Try.prog 6 c_laws_FnExactFindStation := meets_of (E := E_laws_FnExactFindStation) (code := code_laws_FnExactFindStation) mix lay_ok cons_laws_FnExactFindStation Try.func6 (by kernel_rfl) sg_laws_FnExactFindStation (by kernel_rfl) (fun y => y.1) c_laws_FnExactFindStation.out (fun _ => rfl) c_laws_FnExactFindStation.run (fun x => by kernel_rfl) (by kernel_rfl) (loops_mem loops_laws_FnExactFindStation (trivial))
end Go.Proofs.Ytalnijffcoppkaa.WFindStation
