/-
  Own work: part 4 of the texts that the proof of the given statement leans on.
-/
import Derived.Test.YtmkoafebmfoeaaaProg
import Derived.Test.YtmkoafebmfoeaaaZSameBooksP02
/-
  Own work, written by program (gen.py): the functions that the statement reaches meet their contracts.
-/
open Go Go.Di Go.Proofs
namespace Go.Proofs.Ytmkoafebmfoeaaa.WSameBooks
noncomputable def lay : List (TypeId × TI) := [
  (3, ⟨false, [.d (.int .i64 0)], [], none, some (.int .i64), false⟩),
  (4, ⟨false, [.d (.bool false)], [], none, some .bool, false⟩),
  (9, ⟨false, [.d (.str ByteArray.empty)], [], none, some .str, false⟩),
  (22, ⟨false, [.mt], [], some .obs, none, false⟩),
  (23, ⟨false, [.mt], [], some .int, none, false⟩),
  (25, ⟨false, [.mt], [], some .obs, none, false⟩),
  (34, ⟨false, [.mt], [], some .sta, none, false⟩),
  (36, ⟨true, [.d (.bool false), .mt], [(0, 1, false), (1, 1, false)], none, none, true⟩),
  (38, ⟨true, [.d (.bool false), .mt, .mt], [(0, 2, true), (2, 1, false)], none, none, true⟩),
  (41, ⟨false, [.mt], [], some .sta, none, false⟩),
  (43, ⟨true, [.d (.bool false), .mt], [(0, 1, false), (1, 1, false)], none, none, true⟩),
  (45, ⟨true, [.d (.bool false), .mt, .mt], [(0, 2, true), (2, 1, false)], none, none, true⟩),
  (59, ⟨true, [.d (.bool false), .mt], [(0, 1, false), (1, 1, false)], none, none, true⟩),
  (61, ⟨true, [.d (.bool false), .mt, .mt], [(0, 2, true), (2, 1, false)], none, none, true⟩),
  (63, ⟨true, [.d (.str ByteArray.empty), .d (.bool false), .mt, .mt, .d (.bool false), .mt, .mt, .d (.bool false)], [(0, 1, false), (1, 3, true), (4, 3, true), (7, 1, false)], none, none, true⟩),
  (66, ⟨true, [.d (.bool false), .mt], [(0, 1, false), (1, 1, false)], none, none, true⟩),
  (68, ⟨true, [.d (.bool false), .mt, .mt], [(0, 2, true), (2, 1, false)], none, none, true⟩),
  (70, ⟨true, [.d (.str ByteArray.empty), .d (.bool false), .mt, .mt, .d (.bool false), .mt, .mt, .d (.bool false)], [(0, 1, false), (1, 3, true), (4, 3, true), (7, 1, false)], none, none, true⟩),
  (97, ⟨true, [.d (.int .i64 0), .d (.int .i64 0), .d (.int .i64 0), .d (.bool false), .mt, .mt, .d (.bool false), .mt, .mt], [(0, 1, false), (1, 1, false), (2, 1, false), (3, 3, true), (6, 3, true)], none, none, true⟩),
  (99, ⟨true, [.d (.int .i64 0), .d (.int .i64 0), .d (.int .i64 0), .d (.bool false), .mt, .mt, .d (.bool false), .mt, .mt], [(0, 1, false), (1, 1, false), (2, 1, false), (3, 3, true), (6, 3, true)], none, none, true⟩)]
theorem lay_ok : LayOk Try.prog lay := layOk_ok (by kernel_rfl)
theorem mix : Try.prog.follows .mixedOrders = true := by kernel_rfl

noncomputable def sg_laws_szIntS : Sig := ⟨[(false, [.sl .int]), (false, [.int .i64])], false, [(false, [.data (.int .i64)])]⟩
noncomputable def c_laws_szIntS : Con := ⟨sg_laws_szIntS, Int, fun x => M_laws_szIntS x.1 x.2.1, fun r => (r, ())⟩
noncomputable def code_laws_szIntS : Code := Try.f135.body.getD .skip
noncomputable def E_laws_szIntS : Env := ⟨lay, [], [], []⟩
theorem cons_laws_szIntS : ConsOk Try.prog E_laws_szIntS.cons := consOk_nil
theorem loops_laws_szIntS : loopsIn code_laws_szIntS = [] := by kernel_rfl
theorem m_laws_szIntS : Meets Try.prog 135 c_laws_szIntS := meets_of (E := E_laws_szIntS) (code := code_laws_szIntS) mix lay_ok cons_laws_szIntS Try.func135 (by kernel_rfl) sg_laws_szIntS (by kernel_rfl) (fun y => y.1) c_laws_szIntS.out (fun _ => rfl) c_laws_szIntS.run (fun x => by kernel_rfl) (by kernel_rfl) (loops_mem loops_laws_szIntS (trivial))

noncomputable def sg_laws_szBigInt : Sig := ⟨[(true, [.bool, .sl .int]), (false, [.int .i64])], false, [(false, [.data (.int .i64)])]⟩
noncomputable def c_laws_szBigInt : Con := ⟨sg_laws_szBigInt, Int, fun x => M_laws_szBigInt (⟨x.1, x.2.1⟩ : Bg) x.2.2.1, fun r => (r, ())⟩
noncomputable def code_laws_szBigInt : Code := Try.f134.body.getD .skip
noncomputable def E_laws_szBigInt : Env := ⟨lay, [(135, c_laws_szIntS)], [], []⟩
theorem cons_laws_szBigInt : ConsOk Try.prog E_laws_szBigInt.cons := consOk_cons m_laws_szIntS (callable_of Try.func135 (by kernel_rfl)) (consOk_nil)
theorem loops_laws_szBigInt : loopsIn code_laws_szBigInt = [] := by kernel_rfl
theorem m_laws_szBigInt : Meets Try.prog 134 c_laws_szBigInt := meets_of (E := E_laws_szBigInt) (code := code_laws_szBigInt) mix lay_ok cons_laws_szBigInt Try.func134 (by kernel_rfl) sg_laws_szBigInt (by kernel_rfl) (fun y => y.1) c_laws_szBigInt.out (fun _ => rfl) c_laws_szBigInt.run (fun x => by kernel_rfl) (by kernel_rfl) (loops_mem loops_laws_szBigInt (trivial))

noncomputable def sg_laws_szRat : Sig := ⟨[(true, [.bool, .sl .int, .sl .int]), (false, [.int .i64])], false, [(false, [.data (.int .i64)])]⟩
noncomputable def c_laws_szRat : Con := ⟨sg_laws_szRat, Int, fun x => M_laws_szRat (⟨x.1, x.2.1, x.2.2.1⟩ : Rt) x.2.2.2.1, fun r => (r, ())⟩
noncomputable def code_laws_szRat : Code := Try.f90.body.getD .skip
noncomputable def E_laws_szRat : Env := ⟨lay, [(134, c_laws_szBigInt), (135, c_laws_szIntS)], [], []⟩
theorem cons_laws_szRat : ConsOk Try.prog E_laws_szRat.cons := consOk_cons m_laws_szBigInt (callable_of Try.func134 (by kernel_rfl)) (consOk_cons m_laws_szIntS (callable_of Try.func135 (by kernel_rfl)) (consOk_nil))
theorem loops_laws_szRat : loopsIn code_laws_szRat = [] := by kernel_rfl
theorem m_laws_szRat : Meets Try.prog 90 c_laws_szRat := meets_of (E := E_laws_szRat) (code := code_laws_szRat) mix lay_ok cons_laws_szRat Try.func90 (by kernel_rfl) sg_laws_szRat (by kernel_rfl) (fun y => y.1) c_laws_szRat.out (fun _ => rfl) c_laws_szRat.run (fun x => by kernel_rfl) (by kernel_rfl) (loops_mem loops_laws_szRat (trivial))

noncomputable def sg_laws_szStation : Sig := ⟨[(true, [.str, .bool, .sl .int, .sl .int, .bool, .sl .int, .sl .int, .bool]), (false, [.int .i64])], false, [(false, [.data (.int .i64)])]⟩
noncomputable def c_laws_szStation : Con := ⟨sg_laws_szStation, Int, fun x => M_laws_szStation (⟨x.1, (⟨x.2.1, x.2.2.1, x.2.2.2.1⟩ : Rt), (⟨x.2.2.2.2.1, x.2.2.2.2.2.1, x.2.2.2.2.2.2.1⟩ : Rt), x.2.2.2.2.2.2.2.1⟩ : Sta) x.2.2.2.2.2.2.2.2.1, fun r => (r, ())⟩
noncomputable def code_laws_szStation : Code := Try.f40.body.getD .skip
noncomputable def E_laws_szStation : Env := ⟨lay, [(90, c_laws_szRat)], [], []⟩
theorem cons_laws_szStation : ConsOk Try.prog E_laws_szStation.cons := consOk_cons m_laws_szRat (callable_of Try.func90 (by kernel_rfl)) (consOk_nil)
theorem loops_laws_szStation : loopsIn code_laws_szStation = [] := by kernel_rfl
theorem m_laws_szStation : Meets Try.prog 40 c_laws_szStation := meets_of (E := E_laws_szStation) (code := code_laws_szStation) mix lay_ok cons_laws_szStation Try.func40 (by kernel_rfl) sg_laws_szStation (by kernel_rfl) (fun y => y.1) c_laws_szStation.out (fun _ => rfl) c_laws_szStation.run (fun x => by kernel_rfl) (by kernel_rfl) (loops_mem loops_laws_szStation (trivial))

noncomputable def sg_laws_szStationS : Sig := ⟨[(false, [.sl .sta]), (false, [.int .i64])], false, [(false, [.data (.int .i64)])]⟩
noncomputable def c_laws_szStationS : Con := ⟨sg_laws_szStationS, Int, fun x => M_laws_szStationS x.1 x.2.1, fun r => (r, ())⟩
noncomputable def code_laws_szStationS : Code := Try.f107.body.getD .skip
noncomputable def body_laws_szStationS_0 : Code := (loopsIn code_laws_szStationS).getD 0 .skip
noncomputable def D_laws_szStationS_0 : LoopD := ⟨⟨mkSlots [(0, false, [.d (.sl .sta)]), (1, false, [.d (.int .i64)]), (5, false, [.d (.int .i64)])] 27 0, []⟩, [], [(.ret, ⟨mkSlots [(4, false, [.d (.int .i64)])] 27 0, []⟩, []), (.exit 0, ⟨mkSlots [(1, false, [.d (.int .i64)])] 27 0, []⟩, [])]⟩
noncomputable def S_laws_szStationS_0_w (x : Tys D_laws_szStationS_0.head.ks) : Option (OutT D_laws_szStationS_0.outs) := @whileO ((List Sta) × Int × Int × Unit) ((Int × Unit) ⊕ (Int × Unit)) S_laws_szStationS_0 x
noncomputable def E_laws_szStationS : Env := ⟨lay, [(40, c_laws_szStation)], [(5, mkLM D_laws_szStationS_0 S_laws_szStationS_0_w)], []⟩
theorem cons_laws_szStationS : ConsOk Try.prog E_laws_szStationS.cons := consOk_cons m_laws_szStation (callable_of Try.func40 (by kernel_rfl)) (consOk_nil)
theorem S_laws_szStationS_0_ok (x : Tys D_laws_szStationS_0.head.ks) : stepL E_laws_szStationS D_laws_szStationS_0 body_laws_szStationS_0 x = S_laws_szStationS_0 x := by kernel_rfl
theorem loops_laws_szStationS_0 : loopsIn body_laws_szStationS_0 = [] := by kernel_rfl
theorem l_laws_szStationS_0 : LoopOk Try.prog (mkLM D_laws_szStationS_0 S_laws_szStationS_0_w) body_laws_szStationS_0 := loop_ok2 mix lay_ok cons_laws_szStationS (by kernel_rfl) (loops_mem loops_laws_szStationS_0 (trivial)) S_laws_szStationS_0_ok fun _ _ h => h
theorem loops_laws_szStationS : loopsIn code_laws_szStationS = [body_laws_szStationS_0] := by kernel_rfl
theorem m_laws_szStationS : Meets Try.prog 107 c_laws_szStationS := meets_of (E := E_laws_szStationS) (code := code_laws_szStationS) mix lay_ok cons_laws_szStationS Try.func107 (by kernel_rfl) sg_laws_szStationS (by kernel_rfl) (fun y => y.1) c_laws_szStationS.out (fun _ => rfl) c_laws_szStationS.run (fun x => by kernel_rfl) (by kernel_rfl) (loops_mem loops_laws_szStationS (⟨⟨_, by kernel_rfl, l_laws_szStationS_0⟩, trivial⟩))

noncomputable def sg_laws_szNetwork : Sig := ⟨[(true, [.bool, .sl .sta]), (false, [.int .i64])], false, [(false, [.data (.int .i64)])]⟩
noncomputable def c_laws_szNetwork : Con := ⟨sg_laws_szNetwork, Int, fun x => M_laws_szNetwork (⟨x.1, x.2.1⟩ : Net) x.2.2.1, fun r => (r, ())⟩
noncomputable def code_laws_szNetwork : Code := Try.f59.body.getD .skip
noncomputable def E_laws_szNetwork : Env := ⟨lay, [(107, c_laws_szStationS)], [], []⟩
theorem cons_laws_szNetwork : ConsOk Try.prog E_laws_szNetwork.cons := consOk_cons m_laws_szStationS (callable_of Try.func107 (by kernel_rfl)) (consOk_nil)
theorem loops_laws_szNetwork : loopsIn code_laws_szNetwork = [] := by kernel_rfl
theorem m_laws_szNetwork : Meets Try.prog 59 c_laws_szNetwork := meets_of (E := E_laws_szNetwork) (code := code_laws_szNetwork) mix lay_ok cons_laws_szNetwork Try.func59 (by kernel_rfl) sg_laws_szNetwork (by kernel_rfl) (fun y => y.1) c_laws_szNetwork.out (fun _ => rfl) c_laws_szNetwork.run (fun x => by kernel_rfl) (by kernel_rfl) (loops_mem loops_laws_szNetwork (trivial))

noncomputable def sg_laws_szObservation : Sig := ⟨[(true, [.int .i64, .int .i64, .int .i64, .bool, .sl .int, .sl .int, .bool, .sl .int, .sl .int]), (false, [.int .i64])], false, [(false, [.data (.int .i64)])]⟩
noncomputable def c_laws_szObservation : Con := ⟨sg_laws_szObservation, Int, fun x => M_laws_szObservation (⟨x.1, x.2.1, x.2.2.1, (⟨x.2.2.2.1, x.2.2.2.2.1, x.2.2.2.2.2.1⟩ : Rt), (⟨x.2.2.2.2.2.2.1, x.2.2.2.2.2.2.2.1, x.2.2.2.2.2.2.2.2.1⟩ : Rt)⟩ : Obs) x.2.2.2.2.2.2.2.2.2.1, fun r => (r, ())⟩
noncomputable def code_laws_szObservation : Code := Try.f68.body.getD .skip
noncomputable def E_laws_szObservation : Env := ⟨lay, [(90, c_laws_szRat)], [], []⟩
theorem cons_laws_szObservation : ConsOk Try.prog E_laws_szObservation.cons := consOk_cons m_laws_szRat (callable_of Try.func90 (by kernel_rfl)) (consOk_nil)
theorem loops_laws_szObservation : loopsIn code_laws_szObservation = [] := by kernel_rfl
theorem m_laws_szObservation : Meets Try.prog 68 c_laws_szObservation := meets_of (E := E_laws_szObservation) (code := code_laws_szObservation) mix lay_ok cons_laws_szObservation Try.func68 (by kernel_rfl) sg_laws_szObservation (by kernel_rfl) (fun y => y.1) c_laws_szObservation.out (fun _ => rfl) c_laws_szObservation.run (fun x => by kernel_rfl) (by kernel_rfl) (loops_mem loops_laws_szObservation (trivial))

noncomputable def sg_laws_szObservationS : Sig := ⟨[(false, [.sl .obs]), (false, [.int .i64])], false, [(false, [.data (.int .i64)])]⟩
noncomputable def c_laws_szObservationS : Con := ⟨sg_laws_szObservationS, Int, fun x => M_laws_szObservationS x.1 x.2.1, fun r => (r, ())⟩
noncomputable def code_laws_szObservationS : Code := Try.f15.body.getD .skip
noncomputable def body_laws_szObservationS_0 : Code := (loopsIn code_laws_szObservationS).getD 0 .skip
noncomputable def D_laws_szObservationS_0 : LoopD := ⟨⟨mkSlots [(0, false, [.d (.sl .obs)]), (1, false, [.d (.int .i64)]), (5, false, [.d (.int .i64)])] 27 0, []⟩, [], [(.ret, ⟨mkSlots [(4, false, [.d (.int .i64)])] 27 0, []⟩, []), (.exit 0, ⟨mkSlots [(1, false, [.d (.int .i64)])] 27 0, []⟩, [])]⟩
noncomputable def S_laws_szObservationS_0_w (x : Tys D_laws_szObservationS_0.head.ks) : Option (OutT D_laws_szObservationS_0.outs) := @whileO ((List Obs) × Int × Int × Unit) ((Int × Unit) ⊕ (Int × Unit)) S_laws_szObservationS_0 x
noncomputable def E_laws_szObservationS : Env := ⟨lay, [(68, c_laws_szObservation)], [(5, mkLM D_laws_szObservationS_0 S_laws_szObservationS_0_w)], []⟩
theorem cons_laws_szObservationS : ConsOk Try.prog E_laws_szObservationS.cons := consOk_cons m_laws_szObservation (callable_of Try.func68 (by kernel_rfl)) (consOk_nil)
theorem S_laws_szObservationS_0_ok (x : Tys D_laws_szObservationS_0.head.ks) : stepL E_laws_szObservationS D_laws_szObservationS_0 body_laws_szObservationS_0 x = S_laws_szObservationS_0 x := by kernel_rfl
theorem loops_laws_szObservationS_0 : loopsIn body_laws_szObservationS_0 = [] := by kernel_rfl
theorem l_laws_szObservationS_0 : LoopOk Try.prog (mkLM D_laws_szObservationS_0 S_laws_szObservationS_0_w) body_laws_szObservationS_0 := loop_ok2 mix lay_ok cons_laws_szObservationS (by kernel_rfl) (loops_mem loops_laws_szObservationS_0 (trivial)) S_laws_szObservationS_0_ok fun _ _ h => h
theorem loops_laws_szObservationS : loopsIn code_laws_szObservationS = [body_laws_szObservationS_0] := by kernel_rfl
theorem m_laws_szObservationS : Meets Try.prog 15 c_laws_szObservationS := meets_of (E := E_laws_szObservationS) (code := code_laws_szObservationS) mix lay_ok cons_laws_szObservationS Try.func15 (by kernel_rfl) sg_laws_szObservationS (by kernel_rfl) (fun y => y.1) c_laws_szObservationS.out (fun _ => rfl) c_laws_szObservationS.run (fun x => by kernel_rfl) (by kernel_rfl) (loops_mem loops_laws_szObservationS (⟨⟨_, by kernel_rfl, l_laws_szObservationS_0⟩, trivial⟩))

noncomputable def sg_laws_szBook : Sig := ⟨[(true, [.bool, .sl .sta, .sl .obs]), (false, [.int .i64])], false, [(false, [.data (.int .i64)])]⟩
noncomputable def c_laws_szBook : Con := ⟨sg_laws_szBook, Int, fun x => M_laws_szBook (⟨x.1, x.2.1, x.2.2.1⟩ : Bk) x.2.2.2.1, fun r => (r, ())⟩
noncomputable def code_laws_szBook : Code := Try.f25.body.getD .skip
noncomputable def E_laws_szBook : Env := ⟨lay, [(59, c_laws_szNetwork), (15, c_laws_szObservationS)], [], []⟩
theorem cons_laws_szBook : ConsOk Try.prog E_laws_szBook.cons := consOk_cons m_laws_szNetwork (callable_of Try.func59 (by kernel_rfl)) (consOk_cons m_laws_szObservationS (callable_of Try.func15 (by kernel_rfl)) (consOk_nil))
theorem loops_laws_szBook : loopsIn code_laws_szBook = [] := by kernel_rfl
theorem m_laws_szBook : Meets Try.prog 25 c_laws_szBook := meets_of (E := E_laws_szBook) (code := code_laws_szBook) mix lay_ok cons_laws_szBook Try.func25 (by kernel_rfl) sg_laws_szBook (by kernel_rfl) (fun y => y.1) c_laws_szBook.out (fun _ => rfl) c_laws_szBook.run (fun x => by kernel_rfl) (by kernel_rfl) (loops_mem loops_laws_szBook (trivial))

noncomputable def sg_laws_toIntS : Sig := ⟨[(false, [.sl .int])], false, [(false, [.fresh .int])]⟩
noncomputable def c_laws_toIntS : Con := ⟨sg_laws_toIntS, List Int, fun x => M_laws_toIntS x.1, fun r => (r, ())⟩
noncomputable def code_laws_toIntS : Code := Try.f18.body.getD .skip
noncomputable def body_laws_toIntS_0 : Code := (loopsIn code_laws_toIntS).getD 0 .skip
noncomputable def D_laws_toIntS_0 : LoopD := ⟨⟨mkSlots [(0, false, [.d (.sl .int)]), (3, false, [.own 736]), (4, false, [.d (.int .i64)])] 22 0, [(736, .arr false .int)]⟩, [], [(.exit 0, ⟨mkSlots [(3, false, [.own 736])] 22 0, [(736, .arr false .int)]⟩, [])]⟩
noncomputable def S_laws_toIntS_0_w (x : Tys D_laws_toIntS_0.head.ks) : Option (OutT D_laws_toIntS_0.outs) := @whileO ((List Int) × Int × (List Int) × Unit) ((List Int) × Unit) S_laws_toIntS_0 x
noncomputable def E_laws_toIntS : Env := ⟨lay, [], [(3, mkLM D_laws_toIntS_0 S_laws_toIntS_0_w)], []⟩
theorem cons_laws_toIntS : ConsOk Try.prog E_laws_toIntS.cons := consOk_nil
theorem S_laws_toIntS_0_ok (x : Tys D_laws_toIntS_0.head.ks) : stepL E_laws_toIntS D_laws_toIntS_0 body_laws_toIntS_0 x = S_laws_toIntS_0 x := by kernel_rfl
theorem loops_laws_toIntS_0 : loopsIn body_laws_toIntS_0 = [] := by kernel_rfl
theorem l_laws_toIntS_0 : LoopOk Try.prog (mkLM D_laws_toIntS_0 S_laws_toIntS_0_w) body_laws_toIntS_0 := loop_ok2 mix lay_ok cons_laws_toIntS (by kernel_rfl) (loops_mem loops_laws_toIntS_0 (trivial)) S_laws_toIntS_0_ok fun _ _ h => h
theorem loops_laws_toIntS : loopsIn code_laws_toIntS = [body_laws_toIntS_0] := by kernel_rfl
theorem m_laws_toIntS : Meets Try.prog 18 c_laws_toIntS := meets_of (E := E_laws_toIntS) (code := code_laws_toIntS) mix lay_ok cons_laws_toIntS Try.func18 (by kernel_rfl) sg_laws_toIntS (by kernel_rfl) (fun y => y.1) c_laws_toIntS.out (fun _ => rfl) c_laws_toIntS.run (fun x => by kernel_rfl) (by kernel_rfl) (loops_mem loops_laws_toIntS (⟨⟨_, by kernel_rfl, l_laws_toIntS_0⟩, trivial⟩))

noncomputable def sg_laws_toBigInt : Sig := ⟨[(true, [.bool, .sl .int])], false, [(true, [.data (.bool), .fresh .int])]⟩
noncomputable def c_laws_toBigInt : Con := ⟨sg_laws_toBigInt, Bg, fun x => M_laws_toBigInt (⟨x.1, x.2.1⟩ : Bg), fun r => (r.neg, r.mag, ())⟩
noncomputable def code_laws_toBigInt : Code := Try.f139.body.getD .skip
noncomputable def E_laws_toBigInt : Env := ⟨lay, [(18, c_laws_toIntS)], [], []⟩
theorem cons_laws_toBigInt : ConsOk Try.prog E_laws_toBigInt.cons := consOk_cons m_laws_toIntS (callable_of Try.func18 (by kernel_rfl)) (consOk_nil)
theorem loops_laws_toBigInt : loopsIn code_laws_toBigInt = [] := by kernel_rfl
theorem m_laws_toBigInt : Meets Try.prog 139 c_laws_toBigInt := meets_of (E := E_laws_toBigInt) (code := code_laws_toBigInt) mix lay_ok cons_laws_toBigInt Try.func139 (by kernel_rfl) sg_laws_toBigInt (by kernel_rfl) (fun y => (⟨y.1, y.2.1⟩ : Bg)) c_laws_toBigInt.out (fun _ => rfl) c_laws_toBigInt.run (fun x => by kernel_rfl) (by kernel_rfl) (loops_mem loops_laws_toBigInt (trivial))

noncomputable def sg_laws_toRat : Sig := ⟨[(true, [.bool, .sl .int, .sl .int])], false, [(true, [.data (.bool), .fresh .int, .fresh .int])]⟩
noncomputable def c_laws_toRat : Con := ⟨sg_laws_toRat, Rt, fun x => M_laws_toRat (⟨x.1, x.2.1, x.2.2.1⟩ : Rt), fun r => (r.neg, r.mag, r.den, ())⟩
noncomputable def code_laws_toRat : Code := Try.f94.body.getD .skip
noncomputable def E_laws_toRat : Env := ⟨lay, [(139, c_laws_toBigInt), (18, c_laws_toIntS)], [], []⟩
theorem cons_laws_toRat : ConsOk Try.prog E_laws_toRat.cons := consOk_cons m_laws_toBigInt (callable_of Try.func139 (by kernel_rfl)) (consOk_cons m_laws_toIntS (callable_of Try.func18 (by kernel_rfl)) (consOk_nil))
theorem loops_laws_toRat : loopsIn code_laws_toRat = [] := by kernel_rfl
theorem m_laws_toRat : Meets Try.prog 94 c_laws_toRat := meets_of (E := E_laws_toRat) (code := code_laws_toRat) mix lay_ok cons_laws_toRat Try.func94 (by kernel_rfl) sg_laws_toRat (by kernel_rfl) (fun y => (⟨y.1, y.2.1, y.2.2.1⟩ : Rt)) c_laws_toRat.out (fun _ => rfl) c_laws_toRat.run (fun x => by kernel_rfl) (by kernel_rfl) (loops_mem loops_laws_toRat (trivial))

noncomputable def sg_laws_toStation : Sig := ⟨[(true, [.str, .bool, .sl .int, .sl .int, .bool, .sl .int, .sl .int, .bool])], false, [(true, [.data (.str), .data (.bool), .fresh .int, .fresh .int, .data (.bool), .fresh .int, .fresh .int, .data (.bool)])]⟩
noncomputable def c_laws_toStation : Con := ⟨sg_laws_toStation, Sta, fun x => M_laws_toStation (⟨x.1, (⟨x.2.1, x.2.2.1, x.2.2.2.1⟩ : Rt), (⟨x.2.2.2.2.1, x.2.2.2.2.2.1, x.2.2.2.2.2.2.1⟩ : Rt), x.2.2.2.2.2.2.2.1⟩ : Sta), fun r => (r.name, r.x.neg, r.x.mag, r.x.den, r.y.neg, r.y.mag, r.y.den, r.fixed, ())⟩
noncomputable def code_laws_toStation : Code := Try.f42.body.getD .skip
noncomputable def E_laws_toStation : Env := ⟨lay, [(94, c_laws_toRat)], [], []⟩
theorem cons_laws_toStation : ConsOk Try.prog E_laws_toStation.cons := consOk_cons m_laws_toRat (callable_of Try.func94 (by kernel_rfl)) (consOk_nil)
theorem loops_laws_toStation : loopsIn code_laws_toStation = [] := by kernel_rfl
theorem m_laws_toStation : Meets Try.prog 42 c_laws_toStation := meets_of (E := E_laws_toStation) (code := code_laws_toStation) mix lay_ok cons_laws_toStation Try.func42 (by kernel_rfl) sg_laws_toStation (by kernel_rfl) (fun y => (⟨y.1, (⟨y.2.1, y.2.2.1, y.2.2.2.1⟩ : Rt), (⟨y.2.2.2.2.1, y.2.2.2.2.2.1, y.2.2.2.2.2.2.1⟩ : Rt), y.2.2.2.2.2.2.2.1⟩ : Sta)) c_laws_toStation.out (fun _ => rfl) c_laws_toStation.run (fun x => by kernel_rfl) (by kernel_rfl) (loops_mem loops_laws_toStation (trivial))

noncomputable def sg_laws_toStationS : Sig := ⟨[(false, [.sl .sta])], false, [(false, [.fresh .sta])]⟩
noncomputable def c_laws_toStationS : Con := ⟨sg_laws_toStationS, List Sta, fun x => M_laws_toStationS x.1, fun r => (r, ())⟩
noncomputable def code_laws_toStationS : Code := Try.f109.body.getD .skip
noncomputable def body_laws_toStationS_0 : Code := (loopsIn code_laws_toStationS).getD 0 .skip
noncomputable def D_laws_toStationS_0 : LoopD := ⟨⟨mkSlots [(0, false, [.d (.sl .sta)]), (3, false, [.own 768]), (4, false, [.d (.int .i64)])] 23 0, [(768, .arr false .sta)]⟩, [], [(.exit 0, ⟨mkSlots [(3, false, [.own 768])] 23 0, [(768, .arr false .sta)]⟩, [])]⟩
noncomputable def S_laws_toStationS_0_w (x : Tys D_laws_toStationS_0.head.ks) : Option (OutT D_laws_toStationS_0.outs) := @whileO ((List Sta) × Int × (List Sta) × Unit) ((List Sta) × Unit) S_laws_toStationS_0 x
noncomputable def E_laws_toStationS : Env := ⟨lay, [(42, c_laws_toStation)], [(3, mkLM D_laws_toStationS_0 S_laws_toStationS_0_w)], []⟩
theorem cons_laws_toStationS : ConsOk Try.prog E_laws_toStationS.cons := consOk_cons m_laws_toStation (callable_of Try.func42 (by kernel_rfl)) (consOk_nil)
theorem S_laws_toStationS_0_ok (x : Tys D_laws_toStationS_0.head.ks) : stepL E_laws_toStationS D_laws_toStationS_0 body_laws_toStationS_0 x = S_laws_toStationS_0 x := by kernel_rfl
theorem loops_laws_toStationS_0 : loopsIn body_laws_toStationS_0 = [] := by kernel_rfl
theorem l_laws_toStationS_0 : LoopOk Try.prog (mkLM D_laws_toStationS_0 S_laws_toStationS_0_w) body_laws_toStationS_0 := loop_ok2 mix lay_ok cons_laws_toStationS (by kernel_rfl) (loops_mem loops_laws_toStationS_0 (trivial)) S_laws_toStationS_0_ok fun _ _ h => h
theorem loops_laws_toStationS : loopsIn code_laws_toStationS = [body_laws_toStationS_0] := by kernel_rfl
theorem m_laws_toStationS : Meets Try.prog 109 c_laws_toStationS := meets_of (E := E_laws_toStationS) (code := code_laws_toStationS) mix lay_ok cons_laws_toStationS Try.func109 (by kernel_rfl) sg_laws_toStationS (by kernel_rfl) (fun y => y.1) c_laws_toStationS.out (fun _ => rfl) c_laws_toStationS.run (fun x => by kernel_rfl) (by kernel_rfl) (loops_mem loops_laws_toStationS (⟨⟨_, by kernel_rfl, l_laws_toStationS_0⟩, trivial⟩))

noncomputable def sg_laws_toNetwork : Sig := ⟨[(true, [.bool, .sl .sta])], false, [(true, [.data (.bool), .fresh .sta])]⟩
noncomputable def c_laws_toNetwork : Con := ⟨sg_laws_toNetwork, Net, fun x => M_laws_toNetwork (⟨x.1, x.2.1⟩ : Net), fun r => (r.plane, r.stations, ())⟩
noncomputable def code_laws_toNetwork : Code := Try.f61.body.getD .skip
noncomputable def E_laws_toNetwork : Env := ⟨lay, [(109, c_laws_toStationS)], [], []⟩
theorem cons_laws_toNetwork : ConsOk Try.prog E_laws_toNetwork.cons := consOk_cons m_laws_toStationS (callable_of Try.func109 (by kernel_rfl)) (consOk_nil)
theorem loops_laws_toNetwork : loopsIn code_laws_toNetwork = [] := by kernel_rfl
theorem m_laws_toNetwork : Meets Try.prog 61 c_laws_toNetwork := meets_of (E := E_laws_toNetwork) (code := code_laws_toNetwork) mix lay_ok cons_laws_toNetwork Try.func61 (by kernel_rfl) sg_laws_toNetwork (by kernel_rfl) (fun y => (⟨y.1, y.2.1⟩ : Net)) c_laws_toNetwork.out (fun _ => rfl) c_laws_toNetwork.run (fun x => by kernel_rfl) (by kernel_rfl) (loops_mem loops_laws_toNetwork (trivial))

noncomputable def sg_laws_toObservation : Sig := ⟨[(true, [.int .i64, .int .i64, .int .i64, .bool, .sl .int, .sl .int, .bool, .sl .int, .sl .int])], false, [(true, [.data (.int .i64), .data (.int .i64), .data (.int .i64), .data (.bool), .fresh .int, .fresh .int, .data (.bool), .fresh .int, .fresh .int])]⟩
noncomputable def c_laws_toObservation : Con := ⟨sg_laws_toObservation, Obs, fun x => M_laws_toObservation (⟨x.1, x.2.1, x.2.2.1, (⟨x.2.2.2.1, x.2.2.2.2.1, x.2.2.2.2.2.1⟩ : Rt), (⟨x.2.2.2.2.2.2.1, x.2.2.2.2.2.2.2.1, x.2.2.2.2.2.2.2.2.1⟩ : Rt)⟩ : Obs), fun r => (r.kind, r.frm, r.to, r.value.neg, r.value.mag, r.value.den, r.variance.neg, r.variance.mag, r.variance.den, ())⟩
noncomputable def code_laws_toObservation : Code := Try.f71.body.getD .skip
noncomputable def E_laws_toObservation : Env := ⟨lay, [(94, c_laws_toRat)], [], []⟩
theorem cons_laws_toObservation : ConsOk Try.prog E_laws_toObservation.cons := consOk_cons m_laws_toRat (callable_of Try.func94 (by kernel_rfl)) (consOk_nil)
theorem loops_laws_toObservation : loopsIn code_laws_toObservation = [] := by kernel_rfl
theorem m_laws_toObservation : Meets Try.prog 71 c_laws_toObservation := meets_of (E := E_laws_toObservation) (code := code_laws_toObservation) mix lay_ok cons_laws_toObservation Try.func71 (by kernel_rfl) sg_laws_toObservation (by kernel_rfl) (fun y => (⟨y.1, y.2.1, y.2.2.1, (⟨y.2.2.2.1, y.2.2.2.2.1, y.2.2.2.2.2.1⟩ : Rt), (⟨y.2.2.2.2.2.2.1, y.2.2.2.2.2.2.2.1, y.2.2.2.2.2.2.2.2.1⟩ : Rt)⟩ : Obs)) c_laws_toObservation.out (fun _ => rfl) c_laws_toObservation.run (fun x => by kernel_rfl) (by kernel_rfl) (loops_mem loops_laws_toObservation (trivial))

noncomputable def sg_laws_toObservationS : Sig := ⟨[(false, [.sl .obs])], false, [(false, [.fresh .obs])]⟩
noncomputable def c_laws_toObservationS : Con := ⟨sg_laws_toObservationS, List Obs, fun x => M_laws_toObservationS x.1, fun r => (r, ())⟩
noncomputable def code_laws_toObservationS : Code := Try.f17.body.getD .skip
noncomputable def body_laws_toObservationS_0 : Code := (loopsIn code_laws_toObservationS).getD 0 .skip
noncomputable def D_laws_toObservationS_0 : LoopD := ⟨⟨mkSlots [(0, false, [.d (.sl .obs)]), (3, false, [.own 768]), (4, false, [.d (.int .i64)])] 23 0, [(768, .arr false .obs)]⟩, [], [(.exit 0, ⟨mkSlots [(3, false, [.own 768])] 23 0, [(768, .arr false .obs)]⟩, [])]⟩
noncomputable def S_laws_toObservationS_0_w (x : Tys D_laws_toObservationS_0.head.ks) : Option (OutT D_laws_toObservationS_0.outs) := @whileO ((List Obs) × Int × (List Obs) × Unit) ((List Obs) × Unit) S_laws_toObservationS_0 x
noncomputable def E_laws_toObservationS : Env := ⟨lay, [(71, c_laws_toObservation)], [(3, mkLM D_laws_toObservationS_0 S_laws_toObservationS_0_w)], []⟩
theorem cons_laws_toObservationS : ConsOk Try.prog E_laws_toObservationS.cons := consOk_cons m_laws_toObservation (callable_of Try.func71 (by kernel_rfl)) (consOk_nil)
theorem S_laws_toObservationS_0_ok (x : Tys D_laws_toObservationS_0.head.ks) : stepL E_laws_toObservationS D_laws_toObservationS_0 body_laws_toObservationS_0 x = S_laws_toObservationS_0 x := by kernel_rfl
theorem loops_laws_toObservationS_0 : loopsIn body_laws_toObservationS_0 = [] := by kernel_rfl
theorem l_laws_toObservationS_0 : LoopOk Try.prog (mkLM D_laws_toObservationS_0 S_laws_toObservationS_0_w) body_laws_toObservationS_0 := loop_ok2 mix lay_ok cons_laws_toObservationS (by kernel_rfl) (loops_mem loops_laws_toObservationS_0 (trivial)) S_laws_toObservationS_0_ok fun _ _ h => h
theorem loops_laws_toObservationS : loopsIn code_laws_toObservationS = [body_laws_toObservationS_0] := by kernel_rfl
theorem m_laws_toObservationS : Meets Try.prog 17 c_laws_toObservationS := meets_of (E := E_laws_toObservationS) (code := code_laws_toObservationS) mix lay_ok cons_laws_toObservationS Try.func17 (by kernel_rfl) sg_laws_toObservationS (by kernel_rfl) (fun y => y.1) c_laws_toObservationS.out (fun _ => rfl) c_laws_toObservationS.run (fun x => by kernel_rfl) (by kernel_rfl) (loops_mem loops_laws_toObservationS (⟨⟨_, by kernel_rfl, l_laws_toObservationS_0⟩, trivial⟩))

noncomputable def sg_laws_toBook : Sig := ⟨[(true, [.bool, .sl .sta, .sl .obs])], false, [(true, [.data (.bool), .fresh .sta, .fresh .obs])]⟩
noncomputable def c_laws_toBook : Con := ⟨sg_laws_toBook, Bk, fun x => M_laws_toBook (⟨x.1, x.2.1, x.2.2.1⟩ : Bk), fun r => (r.plane, r.stations, r.obs, ())⟩
noncomputable def code_laws_toBook : Code := Try.f27.body.getD .skip
noncomputable def E_laws_toBook : Env := ⟨lay, [(61, c_laws_toNetwork), (17, c_laws_toObservationS)], [], []⟩
theorem cons_laws_toBook : ConsOk Try.prog E_laws_toBook.cons := consOk_cons m_laws_toNetwork (callable_of Try.func61 (by kernel_rfl)) (consOk_cons m_laws_toObservationS (callable_of Try.func17 (by kernel_rfl)) (consOk_nil))
theorem loops_laws_toBook : loopsIn code_laws_toBook = [] := by kernel_rfl
theorem m_laws_toBook : Meets Try.prog 27 c_laws_toBook := meets_of (E := E_laws_toBook) (code := code_laws_toBook) mix lay_ok cons_laws_toBook Try.func27 (by kernel_rfl) sg_laws_toBook (by kernel_rfl) (fun y => (⟨y.1, y.2.1, y.2.2.1⟩ : Bk)) c_laws_toBook.out (fun _ => rfl) c_laws_toBook.run (fun x => by kernel_rfl) (by kernel_rfl) (loops_mem loops_laws_toBook (trivial))

noncomputable def sg_spec_l04List : Sig := ⟨[(false, [.sl .int]), (false, [.sl .int])], false, [(false, [.data (.bool)])]⟩
noncomputable def c_spec_l04List : Con := ⟨sg_spec_l04List, Bool, fun x => M_spec_l04List x.1 x.2.1, fun r => (r, ())⟩
noncomputable def code_spec_l04List : Code := Try.f147.body.getD .skip
noncomputable def body_spec_l04List_0 : Code := (loopsIn code_spec_l04List).getD 0 .skip
noncomputable def D_spec_l04List_0 : LoopD := ⟨⟨mkSlots [(0, false, [.d (.sl .int)]), (1, false, [.d (.sl .int)]), (12, false, [.d (.int .i64)]), (13, false, [.d (.int .i64)])] 26 0, []⟩, [], [(.ret, ⟨mkSlots [(4, false, [.d (.bool)])] 26 0, []⟩, []), (.exit 0, ⟨mkSlots [] 26 0, []⟩, [])]⟩
noncomputable def S_spec_l04List_0_w (x : Tys D_spec_l04List_0.head.ks) : Option (OutT D_spec_l04List_0.outs) := @whileO ((List Int) × (List Int) × Int × Int × Unit) ((Bool × Unit) ⊕ (Unit)) S_spec_l04List_0 x
noncomputable def E_spec_l04List : Env := ⟨lay, [], [(4, mkLM D_spec_l04List_0 S_spec_l04List_0_w)], [(6, [(0, []), (1, []), (2, []), (3, []), (4, []), (5, []), (6, []), (7, []), (8, [])])]⟩
theorem cons_spec_l04List : ConsOk Try.prog E_spec_l04List.cons := consOk_nil
theorem S_spec_l04List_0_ok (x : Tys D_spec_l04List_0.head.ks) : stepL E_spec_l04List D_spec_l04List_0 body_spec_l04List_0 x = S_spec_l04List_0 x := by kernel_rfl
theorem loops_spec_l04List_0 : loopsIn body_spec_l04List_0 = [] := by kernel_rfl
theorem l_spec_l04List_0 : LoopOk Try.prog (mkLM D_spec_l04List_0 S_spec_l04List_0_w) body_spec_l04List_0 := loop_ok2 mix lay_ok cons_spec_l04List (by kernel_rfl) (loops_mem loops_spec_l04List_0 (trivial)) S_spec_l04List_0_ok fun _ _ h => h
theorem loops_spec_l04List : loopsIn code_spec_l04List = [body_spec_l04List_0] := by kernel_rfl
theorem m_spec_l04List : Meets Try.prog 147 c_spec_l04List := meets_of (E := E_spec_l04List) (code := code_spec_l04List) mix lay_ok cons_spec_l04List Try.func147 (by kernel_rfl) sg_spec_l04List (by kernel_rfl) (fun y => y.1) c_spec_l04List.out (fun _ => rfl) c_spec_l04List.run (fun x => by kernel_rfl) (by kernel_rfl) (loops_mem loops_spec_l04List (⟨⟨_, by kernel_rfl, l_spec_l04List_0⟩, trivial⟩))

noncomputable def sg_spec_RatEqual : Sig := ⟨[(true, [.bool, .sl .int, .sl .int]), (true, [.bool, .sl .int, .sl .int])], false, [(false, [.data (.bool)])]⟩
noncomputable def c_spec_RatEqual : Con := ⟨sg_spec_RatEqual, Bool, fun x => M_spec_RatEqual (⟨x.1, x.2.1, x.2.2.1⟩ : Rt) (⟨x.2.2.2.1, x.2.2.2.2.1, x.2.2.2.2.2.1⟩ : Rt), fun r => (r, ())⟩
noncomputable def code_spec_RatEqual : Code := Try.f120.body.getD .skip
noncomputable def E_spec_RatEqual : Env := ⟨lay, [(147, c_spec_l04List)], [], []⟩
theorem cons_spec_RatEqual : ConsOk Try.prog E_spec_RatEqual.cons := consOk_cons m_spec_l04List (callable_of Try.func147 (by kernel_rfl)) (consOk_nil)
theorem loops_spec_RatEqual : loopsIn code_spec_RatEqual = [] := by kernel_rfl
theorem m_spec_RatEqual : Meets Try.prog 120 c_spec_RatEqual := meets_of (E := E_spec_RatEqual) (code := code_spec_RatEqual) mix lay_ok cons_spec_RatEqual Try.func120 (by kernel_rfl) sg_spec_RatEqual (by kernel_rfl) (fun y => y.1) c_spec_RatEqual.out (fun _ => rfl) c_spec_RatEqual.run (fun x => by kernel_rfl) (by kernel_rfl) (loops_mem loops_spec_RatEqual (trivial))

noncomputable def sg_spec_SameNetworks : Sig := ⟨[(true, [.bool, .sl .sta]), (true, [.bool, .sl .sta])], false, [(false, [.data (.bool)])]⟩
noncomputable def c_spec_SameNetworks : Con := ⟨sg_spec_SameNetworks, Bool, fun x => M_spec_SameNetworks (⟨x.1, x.2.1⟩ : Net) (⟨x.2.2.1, x.2.2.2.1⟩ : Net), fun r => (r, ())⟩
noncomputable def code_spec_SameNetworks : Code := Try.f75.body.getD .skip
noncomputable def body_spec_SameNetworks_0 : Code := (loopsIn code_spec_SameNetworks).getD 0 .skip
noncomputable def D_spec_SameNetworks_0 : LoopD := ⟨⟨mkSlots [(3, false, [.lp 96 0]), (23, false, [.d (.sl .sta)]), (24, false, [.d (.int .i64)]), (25, false, [.d (.int .i64)])] 64 0, [(96, .box [.d (.bool), .d (.sl .sta)])]⟩, [], [(.ret, ⟨mkSlots [(4, false, [.d (.bool)])] 64 0, []⟩, []), (.exit 0, ⟨mkSlots [] 64 0, []⟩, [])]⟩
noncomputable def S_spec_SameNetworks_0_w (x : Tys D_spec_SameNetworks_0.head.ks) : Option (OutT D_spec_SameNetworks_0.outs) := @whileO ((List Sta) × Int × Int × Bool × (List Sta) × Unit) ((Bool × Unit) ⊕ (Unit)) S_spec_SameNetworks_0 x
noncomputable def E_spec_SameNetworks : Env := ⟨lay, [(120, c_spec_RatEqual)], [(4, mkLM D_spec_SameNetworks_0 S_spec_SameNetworks_0_w)], []⟩
theorem cons_spec_SameNetworks : ConsOk Try.prog E_spec_SameNetworks.cons := consOk_cons m_spec_RatEqual (callable_of Try.func120 (by kernel_rfl)) (consOk_nil)
theorem S_spec_SameNetworks_0_ok (x : Tys D_spec_SameNetworks_0.head.ks) : stepL E_spec_SameNetworks D_spec_SameNetworks_0 body_spec_SameNetworks_0 x = S_spec_SameNetworks_0 x := by kernel_rfl
theorem loops_spec_SameNetworks_0 : loopsIn body_spec_SameNetworks_0 = [] := by kernel_rfl
theorem l_spec_SameNetworks_0 : LoopOk Try.prog (mkLM D_spec_SameNetworks_0 S_spec_SameNetworks_0_w) body_spec_SameNetworks_0 := loop_ok2 mix lay_ok cons_spec_SameNetworks (by kernel_rfl) (loops_mem loops_spec_SameNetworks_0 (trivial)) S_spec_SameNetworks_0_ok fun _ _ h => h
theorem loops_spec_SameNetworks : loopsIn code_spec_SameNetworks = [body_spec_SameNetworks_0] := by kernel_rfl
theorem m_spec_SameNetworks : Meets Try.prog 75 c_spec_SameNetworks := meets_of (E := E_spec_SameNetworks) (code := code_spec_SameNetworks) mix lay_ok cons_spec_SameNetworks Try.func75 (by kernel_rfl) sg_spec_SameNetworks (by kernel_rfl) (fun y => y.1) c_spec_SameNetworks.out (fun _ => rfl) c_spec_SameNetworks.run (fun x => by kernel_rfl) (by kernel_rfl) (loops_mem loops_spec_SameNetworks (⟨⟨_, by kernel_rfl, l_spec_SameNetworks_0⟩, trivial⟩))

noncomputable def sg_spec_l11Same : Sig := ⟨[(true, [.int .i64, .int .i64, .int .i64, .bool, .sl .int, .sl .int, .bool, .sl .int, .sl .int]), (true, [.int .i64, .int .i64, .int .i64, .bool, .sl .int, .sl .int, .bool, .sl .int, .sl .int])], false, [(false, [.data (.bool)])]⟩
noncomputable def c_spec_l11Same : Con := ⟨sg_spec_l11Same, Bool, fun x => M_spec_l11Same (⟨x.1, x.2.1, x.2.2.1, (⟨x.2.2.2.1, x.2.2.2.2.1, x.2.2.2.2.2.1⟩ : Rt), (⟨x.2.2.2.2.2.2.1, x.2.2.2.2.2.2.2.1, x.2.2.2.2.2.2.2.2.1⟩ : Rt)⟩ : Obs) (⟨x.2.2.2.2.2.2.2.2.2.1, x.2.2.2.2.2.2.2.2.2.2.1, x.2.2.2.2.2.2.2.2.2.2.2.1, (⟨x.2.2.2.2.2.2.2.2.2.2.2.2.1, x.2.2.2.2.2.2.2.2.2.2.2.2.2.1, x.2.2.2.2.2.2.2.2.2.2.2.2.2.2.1⟩ : Rt), (⟨x.2.2.2.2.2.2.2.2.2.2.2.2.2.2.2.1, x.2.2.2.2.2.2.2.2.2.2.2.2.2.2.2.2.1, x.2.2.2.2.2.2.2.2.2.2.2.2.2.2.2.2.2.1⟩ : Rt)⟩ : Obs), fun r => (r, ())⟩
noncomputable def code_spec_l11Same : Code := Try.f121.body.getD .skip
noncomputable def E_spec_l11Same : Env := ⟨lay, [(120, c_spec_RatEqual)], [], []⟩
theorem cons_spec_l11Same : ConsOk Try.prog E_spec_l11Same.cons := consOk_cons m_spec_RatEqual (callable_of Try.func120 (by kernel_rfl)) (consOk_nil)
theorem loops_spec_l11Same : loopsIn code_spec_l11Same = [] := by kernel_rfl
theorem m_spec_l11Same : Meets Try.prog 121 c_spec_l11Same := meets_of (E := E_spec_l11Same) (code := code_spec_l11Same) mix lay_ok cons_spec_l11Same Try.func121 (by kernel_rfl) sg_spec_l11Same (by kernel_rfl) (fun y => y.1) c_spec_l11Same.out (fun _ => rfl) c_spec_l11Same.run (fun x => by kernel_rfl) (by kernel_rfl) (loops_mem loops_spec_l11Same (trivial))

noncomputable def sg_spec_SameObservations : Sig := ⟨[(false, [.sl .obs]), (false, [.sl .obs])], false, [(false, [.data (.bool)])]⟩
noncomputable def c_spec_SameObservations : Con := ⟨sg_spec_SameObservations, Bool, fun x => M_spec_SameObservations x.1 x.2.1, fun r => (r, ())⟩
noncomputable def code_spec_SameObservations : Code := Try.f76.body.getD .skip
noncomputable def body_spec_SameObservations_0 : Code := (loopsIn code_spec_SameObservations).getD 0 .skip
noncomputable def D_spec_SameObservations_0 : LoopD := ⟨⟨mkSlots [(1, false, [.d (.sl .obs)]), (12, false, [.d (.sl .obs)]), (13, false, [.d (.int .i64)]), (14, false, [.d (.int .i64)])] 27 0, []⟩, [], [(.ret, ⟨mkSlots [(4, false, [.d (.bool)])] 27 0, []⟩, []), (.exit 0, ⟨mkSlots [] 27 0, []⟩, [])]⟩
noncomputable def S_spec_SameObservations_0_w (x : Tys D_spec_SameObservations_0.head.ks) : Option (OutT D_spec_SameObservations_0.outs) := @whileO ((List Obs) × (List Obs) × Int × Int × Unit) ((Bool × Unit) ⊕ (Unit)) S_spec_SameObservations_0 x
noncomputable def E_spec_SameObservations : Env := ⟨lay, [(121, c_spec_l11Same)], [(4, mkLM D_spec_SameObservations_0 S_spec_SameObservations_0_w)], [(6, [(0, []), (1, []), (2, []), (3, []), (4, []), (5, [0, 4, 3, 1, 2]), (6, [])])]⟩
theorem cons_spec_SameObservations : ConsOk Try.prog E_spec_SameObservations.cons := consOk_cons m_spec_l11Same (callable_of Try.func121 (by kernel_rfl)) (consOk_nil)
theorem S_spec_SameObservations_0_ok (x : Tys D_spec_SameObservations_0.head.ks) : stepL E_spec_SameObservations D_spec_SameObservations_0 body_spec_SameObservations_0 x = S_spec_SameObservations_0 x := by kernel_rfl
theorem loops_spec_SameObservations_0 : loopsIn body_spec_SameObservations_0 = [] := by kernel_rfl
theorem l_spec_SameObservations_0 : LoopOk Try.prog (mkLM D_spec_SameObservations_0 S_spec_SameObservations_0_w) body_spec_SameObservations_0 := loop_ok2 mix lay_ok cons_spec_SameObservations (by kernel_rfl) (loops_mem loops_spec_SameObservations_0 (trivial)) S_spec_SameObservations_0_ok fun _ _ h => h
theorem loops_spec_SameObservations : loopsIn code_spec_SameObservations = [body_spec_SameObservations_0] := by kernel_rfl
theorem m_spec_SameObservations : Meets Try.prog 76 c_spec_SameObservations := meets_of (E := E_spec_SameObservations) (code := code_spec_SameObservations) mix lay_ok cons_spec_SameObservations Try.func76 (by kernel_rfl) sg_spec_SameObservations (by kernel_rfl) (fun y => y.1) c_spec_SameObservations.out (fun _ => rfl) c_spec_SameObservations.run (fun x => by kernel_rfl) (by kernel_rfl) (loops_mem loops_spec_SameObservations (⟨⟨_, by kernel_rfl, l_spec_SameObservations_0⟩, trivial⟩))

noncomputable def sg_spec_SameBooks : Sig := ⟨[(true, [.bool, .sl .sta, .sl .obs]), (true, [.bool, .sl .sta, .sl .obs])], false, [(false, [.data (.bool)])]⟩
noncomputable def c_spec_SameBooks : Con := ⟨sg_spec_SameBooks, Bool, fun x => M_spec_SameBooks (⟨x.1, x.2.1, x.2.2.1⟩ : Bk) (⟨x.2.2.2.1, x.2.2.2.2.1, x.2.2.2.2.2.1⟩ : Bk), fun r => (r, ())⟩
noncomputable def code_spec_SameBooks : Code := Try.f26.body.getD .skip
noncomputable def E_spec_SameBooks : Env := ⟨lay, [(75, c_spec_SameNetworks), (76, c_spec_SameObservations)], [], []⟩
theorem cons_spec_SameBooks : ConsOk Try.prog E_spec_SameBooks.cons := consOk_cons m_spec_SameNetworks (callable_of Try.func75 (by kernel_rfl)) (consOk_cons m_spec_SameObservations (callable_of Try.func76 (by kernel_rfl)) (consOk_nil))
theorem loops_spec_SameBooks : loopsIn code_spec_SameBooks = [] := by kernel_rfl
theorem m_spec_SameBooks : Meets Try.prog 26 c_spec_SameBooks := meets_of (E := E_spec_SameBooks) (code := code_spec_SameBooks) mix lay_ok cons_spec_SameBooks Try.func26 (by kernel_rfl) sg_spec_SameBooks (by kernel_rfl) (fun y => y.1) c_spec_SameBooks.out (fun _ => rfl) c_spec_SameBooks.run (fun x => by kernel_rfl) (by kernel_rfl) (loops_mem loops_spec_SameBooks (trivial))

noncomputable def sg_impl_sameInts : Sig := ⟨[(false, [.sl .int]), (false, [.sl .int])], false, [(false, [.data (.bool)])]⟩
noncomputable def c_impl_sameInts : Con := ⟨sg_impl_sameInts, Bool, fun x => M_impl_sameInts x.1 x.2.1, fun r => (r, ())⟩
noncomputable def code_impl_sameInts : Code := Try.f148.body.getD .skip
noncomputable def body_impl_sameInts_0 : Code := (loopsIn code_impl_sameInts).getD 0 .skip
noncomputable def D_impl_sameInts_0 : LoopD := ⟨⟨mkSlots [(0, false, [.d (.sl .int)]), (1, false, [.d (.sl .int)]), (12, false, [.d (.int .i64)]), (13, false, [.d (.int .i64)])] 26 0, []⟩, [], [(.ret, ⟨mkSlots [(4, false, [.d (.bool)])] 26 0, []⟩, []), (.exit 0, ⟨mkSlots [] 26 0, []⟩, [])]⟩
noncomputable def S_impl_sameInts_0_w (x : Tys D_impl_sameInts_0.head.ks) : Option (OutT D_impl_sameInts_0.outs) := @whileO ((List Int) × (List Int) × Int × Int × Unit) ((Bool × Unit) ⊕ (Unit)) S_impl_sameInts_0 x
noncomputable def E_impl_sameInts : Env := ⟨lay, [], [(4, mkLM D_impl_sameInts_0 S_impl_sameInts_0_w)], [(6, [(0, []), (1, []), (2, []), (3, []), (4, []), (5, []), (6, []), (7, []), (8, [])])]⟩
theorem cons_impl_sameInts : ConsOk Try.prog E_impl_sameInts.cons := consOk_nil
theorem S_impl_sameInts_0_ok (x : Tys D_impl_sameInts_0.head.ks) : stepL E_impl_sameInts D_impl_sameInts_0 body_impl_sameInts_0 x = S_impl_sameInts_0 x := by kernel_rfl
theorem loops_impl_sameInts_0 : loopsIn body_impl_sameInts_0 = [] := by kernel_rfl
theorem l_impl_sameInts_0 : LoopOk Try.prog (mkLM D_impl_sameInts_0 S_impl_sameInts_0_w) body_impl_sameInts_0 := loop_ok2 mix lay_ok cons_impl_sameInts (by kernel_rfl) (loops_mem loops_impl_sameInts_0 (trivial)) S_impl_sameInts_0_ok fun _ _ h => h
theorem loops_impl_sameInts : loopsIn code_impl_sameInts = [body_impl_sameInts_0] := by kernel_rfl
theorem m_impl_sameInts : Meets Try.prog 148 c_impl_sameInts := meets_of (E := E_impl_sameInts) (code := code_impl_sameInts) mix lay_ok cons_impl_sameInts Try.func148 (by kernel_rfl) sg_impl_sameInts (by kernel_rfl) (fun y => y.1) c_impl_sameInts.out (fun _ => rfl) c_impl_sameInts.run (fun x => by kernel_rfl) (by kernel_rfl) (loops_mem loops_impl_sameInts (⟨⟨_, by kernel_rfl, l_impl_sameInts_0⟩, trivial⟩))

noncomputable def sg_impl_RatEqual : Sig := ⟨[(true, [.bool, .sl .int, .sl .int]), (true, [.bool, .sl .int, .sl .int])], false, [(false, [.data (.bool)])]⟩
noncomputable def c_impl_RatEqual : Con := ⟨sg_impl_RatEqual, Bool, fun x => M_impl_RatEqual (⟨x.1, x.2.1, x.2.2.1⟩ : Rt) (⟨x.2.2.2.1, x.2.2.2.2.1, x.2.2.2.2.2.1⟩ : Rt), fun r => (r, ())⟩
noncomputable def code_impl_RatEqual : Code := Try.f122.body.getD .skip
noncomputable def E_impl_RatEqual : Env := ⟨lay, [(148, c_impl_sameInts)], [], []⟩
theorem cons_impl_RatEqual : ConsOk Try.prog E_impl_RatEqual.cons := consOk_cons m_impl_sameInts (callable_of Try.func148 (by kernel_rfl)) (consOk_nil)
theorem loops_impl_RatEqual : loopsIn code_impl_RatEqual = [] := by kernel_rfl
theorem m_impl_RatEqual : Meets Try.prog 122 c_impl_RatEqual := meets_of (E := E_impl_RatEqual) (code := code_impl_RatEqual) mix lay_ok cons_impl_RatEqual Try.func122 (by kernel_rfl) sg_impl_RatEqual (by kernel_rfl) (fun y => y.1) c_impl_RatEqual.out (fun _ => rfl) c_impl_RatEqual.run (fun x => by kernel_rfl) (by kernel_rfl) (loops_mem loops_impl_RatEqual (trivial))

noncomputable def sg_impl_SameNetworks : Sig := ⟨[(true, [.bool, .sl .sta]), (true, [.bool, .sl .sta])], false, [(false, [.data (.bool)])]⟩
noncomputable def c_impl_SameNetworks : Con := ⟨sg_impl_SameNetworks, Bool, fun x => M_impl_SameNetworks (⟨x.1, x.2.1⟩ : Net) (⟨x.2.2.1, x.2.2.2.1⟩ : Net), fun r => (r, ())⟩
noncomputable def code_impl_SameNetworks : Code := Try.f77.body.getD .skip
noncomputable def body_impl_SameNetworks_0 : Code := (loopsIn code_impl_SameNetworks).getD 0 .skip
noncomputable def D_impl_SameNetworks_0 : LoopD := ⟨⟨mkSlots [(3, false, [.lp 96 0]), (23, false, [.d (.sl .sta)]), (24, false, [.d (.int .i64)]), (25, false, [.d (.int .i64)])] 64 0, [(96, .box [.d (.bool), .d (.sl .sta)])]⟩, [], [(.ret, ⟨mkSlots [(4, false, [.d (.bool)])] 64 0, []⟩, []), (.exit 0, ⟨mkSlots [] 64 0, []⟩, [])]⟩
noncomputable def S_impl_SameNetworks_0_w (x : Tys D_impl_SameNetworks_0.head.ks) : Option (OutT D_impl_SameNetworks_0.outs) := @whileO ((List Sta) × Int × Int × Bool × (List Sta) × Unit) ((Bool × Unit) ⊕ (Unit)) S_impl_SameNetworks_0 x
noncomputable def E_impl_SameNetworks : Env := ⟨lay, [(122, c_impl_RatEqual)], [(4, mkLM D_impl_SameNetworks_0 S_impl_SameNetworks_0_w)], []⟩
theorem cons_impl_SameNetworks : ConsOk Try.prog E_impl_SameNetworks.cons := consOk_cons m_impl_RatEqual (callable_of Try.func122 (by kernel_rfl)) (consOk_nil)
theorem S_impl_SameNetworks_0_ok (x : Tys D_impl_SameNetworks_0.head.ks) : stepL E_impl_SameNetworks D_impl_SameNetworks_0 body_impl_SameNetworks_0 x = S_impl_SameNetworks_0 x := by kernel_rfl
theorem loops_impl_SameNetworks_0 : loopsIn body_impl_SameNetworks_0 = [] := by kernel_rfl
theorem l_impl_SameNetworks_0 : LoopOk Try.prog (mkLM D_impl_SameNetworks_0 S_impl_SameNetworks_0_w) body_impl_SameNetworks_0 := loop_ok2 mix lay_ok cons_impl_SameNetworks (by kernel_rfl) (loops_mem loops_impl_SameNetworks_0 (trivial)) S_impl_SameNetworks_0_ok fun _ _ h => h
theorem loops_impl_SameNetworks : loopsIn code_impl_SameNetworks = [body_impl_SameNetworks_0] := by kernel_rfl
theorem m_impl_SameNetworks : Meets Try.prog 77 c_impl_SameNetworks := meets_of (E := E_impl_SameNetworks) (code := code_impl_SameNetworks) mix lay_ok cons_impl_SameNetworks Try.func77 (by kernel_rfl) sg_impl_SameNetworks (by kernel_rfl) (fun y => y.1) c_impl_SameNetworks.out (fun _ => rfl) c_impl_SameNetworks.run (fun x => by kernel_rfl) (by kernel_rfl) (loops_mem loops_impl_SameNetworks (⟨⟨_, by kernel_rfl, l_impl_SameNetworks_0⟩, trivial⟩))

noncomputable def sg_impl_sameObservation : Sig := ⟨[(true, [.int .i64, .int .i64, .int .i64, .bool, .sl .int, .sl .int, .bool, .sl .int, .sl .int]), (true, [.int .i64, .int .i64, .int .i64, .bool, .sl .int, .sl .int, .bool, .sl .int, .sl .int])], false, [(false, [.data (.bool)])]⟩
noncomputable def c_impl_sameObservation : Con := ⟨sg_impl_sameObservation, Bool, fun x => M_impl_sameObservation (⟨x.1, x.2.1, x.2.2.1, (⟨x.2.2.2.1, x.2.2.2.2.1, x.2.2.2.2.2.1⟩ : Rt), (⟨x.2.2.2.2.2.2.1, x.2.2.2.2.2.2.2.1, x.2.2.2.2.2.2.2.2.1⟩ : Rt)⟩ : Obs) (⟨x.2.2.2.2.2.2.2.2.2.1, x.2.2.2.2.2.2.2.2.2.2.1, x.2.2.2.2.2.2.2.2.2.2.2.1, (⟨x.2.2.2.2.2.2.2.2.2.2.2.2.1, x.2.2.2.2.2.2.2.2.2.2.2.2.2.1, x.2.2.2.2.2.2.2.2.2.2.2.2.2.2.1⟩ : Rt), (⟨x.2.2.2.2.2.2.2.2.2.2.2.2.2.2.2.1, x.2.2.2.2.2.2.2.2.2.2.2.2.2.2.2.2.1, x.2.2.2.2.2.2.2.2.2.2.2.2.2.2.2.2.2.1⟩ : Rt)⟩ : Obs), fun r => (r, ())⟩
noncomputable def code_impl_sameObservation : Code := Try.f123.body.getD .skip
noncomputable def E_impl_sameObservation : Env := ⟨lay, [(122, c_impl_RatEqual)], [], []⟩
theorem cons_impl_sameObservation : ConsOk Try.prog E_impl_sameObservation.cons := consOk_cons m_impl_RatEqual (callable_of Try.func122 (by kernel_rfl)) (consOk_nil)
theorem loops_impl_sameObservation : loopsIn code_impl_sameObservation = [] := by kernel_rfl
theorem m_impl_sameObservation : Meets Try.prog 123 c_impl_sameObservation := meets_of (E := E_impl_sameObservation) (code := code_impl_sameObservation) mix lay_ok cons_impl_sameObservation Try.func123 (by kernel_rfl) sg_impl_sameObservation (by kernel_rfl) (fun y => y.1) c_impl_sameObservation.out (fun _ => rfl) c_impl_sameObservation.run (fun x => by kernel_rfl) (by kernel_rfl) (loops_mem loops_impl_sameObservation (trivial))

noncomputable def sg_impl_SameObservations : Sig := ⟨[(false, [.sl .obs]), (false, [.sl .obs])], false, [(false, [.data (.bool)])]⟩
noncomputable def c_impl_SameObservations : Con := ⟨sg_impl_SameObservations, Bool, fun x => M_impl_SameObservations x.1 x.2.1, fun r => (r, ())⟩
noncomputable def code_impl_SameObservations : Code := Try.f78.body.getD .skip
noncomputable def body_impl_SameObservations_0 : Code := (loopsIn code_impl_SameObservations).getD 0 .skip
noncomputable def D_impl_SameObservations_0 : LoopD := ⟨⟨mkSlots [(0, false, [.d (.sl .obs)]), (1, false, [.d (.sl .obs)]), (12, false, [.d (.int .i64)]), (13, false, [.d (.int .i64)])] 27 0, []⟩, [], [(.ret, ⟨mkSlots [(4, false, [.d (.bool)])] 27 0, []⟩, []), (.exit 0, ⟨mkSlots [] 27 0, []⟩, [])]⟩
noncomputable def S_impl_SameObservations_0_w (x : Tys D_impl_SameObservations_0.head.ks) : Option (OutT D_impl_SameObservations_0.outs) := @whileO ((List Obs) × (List Obs) × Int × Int × Unit) ((Bool × Unit) ⊕ (Unit)) S_impl_SameObservations_0 x
noncomputable def E_impl_SameObservations : Env := ⟨lay, [(123, c_impl_sameObservation)], [(4, mkLM D_impl_SameObservations_0 S_impl_SameObservations_0_w)], [(6, [(0, []), (1, []), (2, []), (3, []), (4, []), (5, []), (6, []), (7, []), (8, [3, 7, 2, 6, 0, 1, 4, 5]), (9, [])])]⟩
theorem cons_impl_SameObservations : ConsOk Try.prog E_impl_SameObservations.cons := consOk_cons m_impl_sameObservation (callable_of Try.func123 (by kernel_rfl)) (consOk_nil)
theorem S_impl_SameObservations_0_ok (x : Tys D_impl_SameObservations_0.head.ks) : stepL E_impl_SameObservations D_impl_SameObservations_0 body_impl_SameObservations_0 x = S_impl_SameObservations_0 x := by kernel_rfl
theorem loops_impl_SameObservations_0 : loopsIn body_impl_SameObservations_0 = [] := by kernel_rfl
theorem l_impl_SameObservations_0 : LoopOk Try.prog (mkLM D_impl_SameObservations_0 S_impl_SameObservations_0_w) body_impl_SameObservations_0 := loop_ok2 mix lay_ok cons_impl_SameObservations (by kernel_rfl) (loops_mem loops_impl_SameObservations_0 (trivial)) S_impl_SameObservations_0_ok fun _ _ h => h
theorem loops_impl_SameObservations : loopsIn code_impl_SameObservations = [body_impl_SameObservations_0] := by kernel_rfl
theorem m_impl_SameObservations : Meets Try.prog 78 c_impl_SameObservations := meets_of (E := E_impl_SameObservations) (code := code_impl_SameObservations) mix lay_ok cons_impl_SameObservations Try.func78 (by kernel_rfl) sg_impl_SameObservations (by kernel_rfl) (fun y => y.1) c_impl_SameObservations.out (fun _ => rfl) c_impl_SameObservations.run (fun x => by kernel_rfl) (by kernel_rfl) (loops_mem loops_impl_SameObservations (⟨⟨_, by kernel_rfl, l_impl_SameObservations_0⟩, trivial⟩))

noncomputable def sg_impl_SameBooks : Sig := ⟨[(true, [.bool, .sl .sta, .sl .obs]), (true, [.bool, .sl .sta, .sl .obs])], false, [(false, [.data (.bool)])]⟩
noncomputable def c_impl_SameBooks : Con := ⟨sg_impl_SameBooks, Bool, fun x => M_impl_SameBooks (⟨x.1, x.2.1, x.2.2.1⟩ : Bk) (⟨x.2.2.2.1, x.2.2.2.2.1, x.2.2.2.2.2.1⟩ : Bk), fun r => (r, ())⟩
noncomputable def code_impl_SameBooks : Code := Try.f28.body.getD .skip
noncomputable def E_impl_SameBooks : Env := ⟨lay, [(77, c_impl_SameNetworks), (78, c_impl_SameObservations)], [], []⟩
theorem cons_impl_SameBooks : ConsOk Try.prog E_impl_SameBooks.cons := consOk_cons m_impl_SameNetworks (callable_of Try.func77 (by kernel_rfl)) (consOk_cons m_impl_SameObservations (callable_of Try.func78 (by kernel_rfl)) (consOk_nil))
theorem loops_impl_SameBooks : loopsIn code_impl_SameBooks = [] := by kernel_rfl
theorem m_impl_SameBooks : Meets Try.prog 28 c_impl_SameBooks := meets_of (E := E_impl_SameBooks) (code := code_impl_SameBooks) mix lay_ok cons_impl_SameBooks Try.func28 (by kernel_rfl) sg_impl_SameBooks (by kernel_rfl) (fun y => y.1) c_impl_SameBooks.out (fun _ => rfl) c_impl_SameBooks.run (fun x => by kernel_rfl) (by kernel_rfl) (loops_mem loops_impl_SameBooks (trivial))

noncomputable def sg_laws_eqIntS : Sig := ⟨[(false, [.sl .int]), (false, [.sl .int])], false, [(false, [.data (.bool)])]⟩
noncomputable def c_laws_eqIntS : Con := ⟨sg_laws_eqIntS, Bool, fun x => M_laws_eqIntS x.1 x.2.1, fun r => (r, ())⟩
noncomputable def code_laws_eqIntS : Code := Try.f21.body.getD .skip
noncomputable def body_laws_eqIntS_0 : Code := (loopsIn code_laws_eqIntS).getD 0 .skip
noncomputable def D_laws_eqIntS_0 : LoopD := ⟨⟨mkSlots [(0, false, [.d (.sl .int)]), (1, false, [.d (.sl .int)]), (5, false, [.d (.int .i64)])] 26 0, []⟩, [], [(.ret, ⟨mkSlots [(4, false, [.d (.bool)])] 26 0, []⟩, []), (.exit 0, ⟨mkSlots [] 26 0, []⟩, [])]⟩
noncomputable def S_laws_eqIntS_0_w (x : Tys D_laws_eqIntS_0.head.ks) : Option (OutT D_laws_eqIntS_0.outs) := @whileO ((List Int) × (List Int) × Int × Unit) ((Bool × Unit) ⊕ (Unit)) S_laws_eqIntS_0 x
noncomputable def E_laws_eqIntS : Env := ⟨lay, [], [(4, mkLM D_laws_eqIntS_0 S_laws_eqIntS_0_w)], [(6, [(0, []), (1, []), (2, []), (3, []), (4, []), (5, []), (6, []), (7, []), (8, [])])]⟩
theorem cons_laws_eqIntS : ConsOk Try.prog E_laws_eqIntS.cons := consOk_nil
theorem S_laws_eqIntS_0_ok (x : Tys D_laws_eqIntS_0.head.ks) : stepL E_laws_eqIntS D_laws_eqIntS_0 body_laws_eqIntS_0 x = S_laws_eqIntS_0 x := by kernel_rfl
theorem loops_laws_eqIntS_0 : loopsIn body_laws_eqIntS_0 = [] := by kernel_rfl
theorem l_laws_eqIntS_0 : LoopOk Try.prog (mkLM D_laws_eqIntS_0 S_laws_eqIntS_0_w) body_laws_eqIntS_0 := loop_ok2 mix lay_ok cons_laws_eqIntS (by kernel_rfl) (loops_mem loops_laws_eqIntS_0 (trivial)) S_laws_eqIntS_0_ok fun _ _ h => h
theorem loops_laws_eqIntS : loopsIn code_laws_eqIntS = [body_laws_eqIntS_0] := by kernel_rfl
theorem m_laws_eqIntS : Meets Try.prog 21 c_laws_eqIntS := meets_of (E := E_laws_eqIntS) (code := code_laws_eqIntS) mix lay_ok cons_laws_eqIntS Try.func21 (by kernel_rfl) sg_laws_eqIntS (by kernel_rfl) (fun y => y.1) c_laws_eqIntS.out (fun _ => rfl) c_laws_eqIntS.run (fun x => by kernel_rfl) (by kernel_rfl) (loops_mem loops_laws_eqIntS (⟨⟨_, by kernel_rfl, l_laws_eqIntS_0⟩, trivial⟩))

noncomputable def sg_laws_eqBigInt : Sig := ⟨[(true, [.bool, .sl .int]), (true, [.bool, .sl .int])], false, [(false, [.data (.bool)])]⟩
noncomputable def c_laws_eqBigInt : Con := ⟨sg_laws_eqBigInt, Bool, fun x => M_laws_eqBigInt (⟨x.1, x.2.1⟩ : Bg) (⟨x.2.2.1, x.2.2.2.1⟩ : Bg), fun r => (r, ())⟩
noncomputable def code_laws_eqBigInt : Code := Try.f104.body.getD .skip
noncomputable def E_laws_eqBigInt : Env := ⟨lay, [(21, c_laws_eqIntS)], [], []⟩
theorem cons_laws_eqBigInt : ConsOk Try.prog E_laws_eqBigInt.cons := consOk_cons m_laws_eqIntS (callable_of Try.func21 (by kernel_rfl)) (consOk_nil)
theorem loops_laws_eqBigInt : loopsIn code_laws_eqBigInt = [] := by kernel_rfl
theorem m_laws_eqBigInt : Meets Try.prog 104 c_laws_eqBigInt := meets_of (E := E_laws_eqBigInt) (code := code_laws_eqBigInt) mix lay_ok cons_laws_eqBigInt Try.func104 (by kernel_rfl) sg_laws_eqBigInt (by kernel_rfl) (fun y => y.1) c_laws_eqBigInt.out (fun _ => rfl) c_laws_eqBigInt.run (fun x => by kernel_rfl) (by kernel_rfl) (loops_mem loops_laws_eqBigInt (trivial))

noncomputable def sg_laws_eqRat : Sig := ⟨[(true, [.bool, .sl .int, .sl .int]), (true, [.bool, .sl .int, .sl .int])], false, [(false, [.data (.bool)])]⟩
noncomputable def c_laws_eqRat : Con := ⟨sg_laws_eqRat, Bool, fun x => M_laws_eqRat (⟨x.1, x.2.1, x.2.2.1⟩ : Rt) (⟨x.2.2.2.1, x.2.2.2.2.1, x.2.2.2.2.2.1⟩ : Rt), fun r => (r, ())⟩
noncomputable def code_laws_eqRat : Code := Try.f56.body.getD .skip
noncomputable def E_laws_eqRat : Env := ⟨lay, [(104, c_laws_eqBigInt), (21, c_laws_eqIntS)], [], []⟩
theorem cons_laws_eqRat : ConsOk Try.prog E_laws_eqRat.cons := consOk_cons m_laws_eqBigInt (callable_of Try.func104 (by kernel_rfl)) (consOk_cons m_laws_eqIntS (callable_of Try.func21 (by kernel_rfl)) (consOk_nil))
theorem loops_laws_eqRat : loopsIn code_laws_eqRat = [] := by kernel_rfl
theorem m_laws_eqRat : Meets Try.prog 56 c_laws_eqRat := meets_of (E := E_laws_eqRat) (code := code_laws_eqRat) mix lay_ok cons_laws_eqRat Try.func56 (by kernel_rfl) sg_laws_eqRat (by kernel_rfl) (fun y => y.1) c_laws_eqRat.out (fun _ => rfl) c_laws_eqRat.run (fun x => by kernel_rfl) (by kernel_rfl) (loops_mem loops_laws_eqRat (trivial))

noncomputable def sg_laws_eqStation : Sig := ⟨[(true, [.str, .bool, .sl .int, .sl .int, .bool, .sl .int, .sl .int, .bool]), (true, [.str, .bool, .sl .int, .sl .int, .bool, .sl .int, .sl .int, .bool])], false, [(false, [.data (.bool)])]⟩
noncomputable def c_laws_eqStation : Con := ⟨sg_laws_eqStation, Bool, fun x => M_laws_eqStation (⟨x.1, (⟨x.2.1, x.2.2.1, x.2.2.2.1⟩ : Rt), (⟨x.2.2.2.2.1, x.2.2.2.2.2.1, x.2.2.2.2.2.2.1⟩ : Rt), x.2.2.2.2.2.2.2.1⟩ : Sta) (⟨x.2.2.2.2.2.2.2.2.1, (⟨x.2.2.2.2.2.2.2.2.2.1, x.2.2.2.2.2.2.2.2.2.2.1, x.2.2.2.2.2.2.2.2.2.2.2.1⟩ : Rt), (⟨x.2.2.2.2.2.2.2.2.2.2.2.2.1, x.2.2.2.2.2.2.2.2.2.2.2.2.2.1, x.2.2.2.2.2.2.2.2.2.2.2.2.2.2.1⟩ : Rt), x.2.2.2.2.2.2.2.2.2.2.2.2.2.2.2.1⟩ : Sta), fun r => (r, ())⟩
noncomputable def code_laws_eqStation : Code := Try.f44.body.getD .skip
noncomputable def E_laws_eqStation : Env := ⟨lay, [(56, c_laws_eqRat)], [], []⟩
theorem cons_laws_eqStation : ConsOk Try.prog E_laws_eqStation.cons := consOk_cons m_laws_eqRat (callable_of Try.func56 (by kernel_rfl)) (consOk_nil)
theorem loops_laws_eqStation : loopsIn code_laws_eqStation = [] := by kernel_rfl
theorem m_laws_eqStation : Meets Try.prog 44 c_laws_eqStation := meets_of (E := E_laws_eqStation) (code := code_laws_eqStation) mix lay_ok cons_laws_eqStation Try.func44 (by kernel_rfl) sg_laws_eqStation (by kernel_rfl) (fun y => y.1) c_laws_eqStation.out (fun _ => rfl) c_laws_eqStation.run (fun x => by kernel_rfl) (by kernel_rfl) (loops_mem loops_laws_eqStation (trivial))

noncomputable def sg_laws_eqStationS : Sig := ⟨[(false, [.sl .sta]), (false, [.sl .sta])], false, [(false, [.data (.bool)])]⟩
noncomputable def c_laws_eqStationS : Con := ⟨sg_laws_eqStationS, Bool, fun x => M_laws_eqStationS x.1 x.2.1, fun r => (r, ())⟩
noncomputable def code_laws_eqStationS : Code := Try.f111.body.getD .skip
noncomputable def body_laws_eqStationS_0 : Code := (loopsIn code_laws_eqStationS).getD 0 .skip
noncomputable def D_laws_eqStationS_0 : LoopD := ⟨⟨mkSlots [(0, false, [.d (.sl .sta)]), (1, false, [.d (.sl .sta)]), (5, false, [.d (.int .i64)])] 27 0, []⟩, [], [(.ret, ⟨mkSlots [(4, false, [.d (.bool)])] 27 0, []⟩, []), (.exit 0, ⟨mkSlots [] 27 0, []⟩, [])]⟩
noncomputable def S_laws_eqStationS_0_w (x : Tys D_laws_eqStationS_0.head.ks) : Option (OutT D_laws_eqStationS_0.outs) := @whileO ((List Sta) × (List Sta) × Int × Unit) ((Bool × Unit) ⊕ (Unit)) S_laws_eqStationS_0 x
noncomputable def E_laws_eqStationS : Env := ⟨lay, [(44, c_laws_eqStation)], [(4, mkLM D_laws_eqStationS_0 S_laws_eqStationS_0_w)], [(6, [(0, []), (1, []), (2, []), (3, []), (4, []), (5, []), (6, []), (7, []), (8, [3, 7, 2, 6, 0, 1, 4, 5]), (9, [])])]⟩
theorem cons_laws_eqStationS : ConsOk Try.prog E_laws_eqStationS.cons := consOk_cons m_laws_eqStation (callable_of Try.func44 (by kernel_rfl)) (consOk_nil)
theorem S_laws_eqStationS_0_ok (x : Tys D_laws_eqStationS_0.head.ks) : stepL E_laws_eqStationS D_laws_eqStationS_0 body_laws_eqStationS_0 x = S_laws_eqStationS_0 x := by kernel_rfl
theorem loops_laws_eqStationS_0 : loopsIn body_laws_eqStationS_0 = [] := by kernel_rfl
theorem l_laws_eqStationS_0 : LoopOk Try.prog (mkLM D_laws_eqStationS_0 S_laws_eqStationS_0_w) body_laws_eqStationS_0 := loop_ok2 mix lay_ok cons_laws_eqStationS (by kernel_rfl) (loops_mem loops_laws_eqStationS_0 (trivial)) S_laws_eqStationS_0_ok fun _ _ h => h
theorem loops_laws_eqStationS : loopsIn code_laws_eqStationS = [body_laws_eqStationS_0] := by kernel_rfl
theorem m_laws_eqStationS : Meets Try.prog 111 c_laws_eqStationS := meets_of (E := E_laws_eqStationS) (code := code_laws_eqStationS) mix lay_ok cons_laws_eqStationS Try.func111 (by kernel_rfl) sg_laws_eqStationS (by kernel_rfl) (fun y => y.1) c_laws_eqStationS.out (fun _ => rfl) c_laws_eqStationS.run (fun x => by kernel_rfl) (by kernel_rfl) (loops_mem loops_laws_eqStationS (⟨⟨_, by kernel_rfl, l_laws_eqStationS_0⟩, trivial⟩))

noncomputable def sg_laws_eqNetwork : Sig := ⟨[(true, [.bool, .sl .sta]), (true, [.bool, .sl .sta])], false, [(false, [.data (.bool)])]⟩
noncomputable def c_laws_eqNetwork : Con := ⟨sg_laws_eqNetwork, Bool, fun x => M_laws_eqNetwork (⟨x.1, x.2.1⟩ : Net) (⟨x.2.2.1, x.2.2.2.1⟩ : Net), fun r => (r, ())⟩
noncomputable def code_laws_eqNetwork : Code := Try.f63.body.getD .skip
noncomputable def E_laws_eqNetwork : Env := ⟨lay, [(111, c_laws_eqStationS)], [], []⟩
theorem cons_laws_eqNetwork : ConsOk Try.prog E_laws_eqNetwork.cons := consOk_cons m_laws_eqStationS (callable_of Try.func111 (by kernel_rfl)) (consOk_nil)
theorem loops_laws_eqNetwork : loopsIn code_laws_eqNetwork = [] := by kernel_rfl
theorem m_laws_eqNetwork : Meets Try.prog 63 c_laws_eqNetwork := meets_of (E := E_laws_eqNetwork) (code := code_laws_eqNetwork) mix lay_ok cons_laws_eqNetwork Try.func63 (by kernel_rfl) sg_laws_eqNetwork (by kernel_rfl) (fun y => y.1) c_laws_eqNetwork.out (fun _ => rfl) c_laws_eqNetwork.run (fun x => by kernel_rfl) (by kernel_rfl) (loops_mem loops_laws_eqNetwork (trivial))

noncomputable def sg_laws_eqObservation : Sig := ⟨[(true, [.int .i64, .int .i64, .int .i64, .bool, .sl .int, .sl .int, .bool, .sl .int, .sl .int]), (true, [.int .i64, .int .i64, .int .i64, .bool, .sl .int, .sl .int, .bool, .sl .int, .sl .int])], false, [(false, [.data (.bool)])]⟩
noncomputable def c_laws_eqObservation : Con := ⟨sg_laws_eqObservation, Bool, fun x => M_laws_eqObservation (⟨x.1, x.2.1, x.2.2.1, (⟨x.2.2.2.1, x.2.2.2.2.1, x.2.2.2.2.2.1⟩ : Rt), (⟨x.2.2.2.2.2.2.1, x.2.2.2.2.2.2.2.1, x.2.2.2.2.2.2.2.2.1⟩ : Rt)⟩ : Obs) (⟨x.2.2.2.2.2.2.2.2.2.1, x.2.2.2.2.2.2.2.2.2.2.1, x.2.2.2.2.2.2.2.2.2.2.2.1, (⟨x.2.2.2.2.2.2.2.2.2.2.2.2.1, x.2.2.2.2.2.2.2.2.2.2.2.2.2.1, x.2.2.2.2.2.2.2.2.2.2.2.2.2.2.1⟩ : Rt), (⟨x.2.2.2.2.2.2.2.2.2.2.2.2.2.2.2.1, x.2.2.2.2.2.2.2.2.2.2.2.2.2.2.2.2.1, x.2.2.2.2.2.2.2.2.2.2.2.2.2.2.2.2.2.1⟩ : Rt)⟩ : Obs), fun r => (r, ())⟩
noncomputable def code_laws_eqObservation : Code := Try.f74.body.getD .skip
noncomputable def E_laws_eqObservation : Env := ⟨lay, [(56, c_laws_eqRat)], [], []⟩
theorem cons_laws_eqObservation : ConsOk Try.prog E_laws_eqObservation.cons := consOk_cons m_laws_eqRat (callable_of Try.func56 (by kernel_rfl)) (consOk_nil)
theorem loops_laws_eqObservation : loopsIn code_laws_eqObservation = [] := by kernel_rfl
theorem m_laws_eqObservation : Meets Try.prog 74 c_laws_eqObservation := meets_of (E := E_laws_eqObservation) (code := code_laws_eqObservation) mix lay_ok cons_laws_eqObservation Try.func74 (by kernel_rfl) sg_laws_eqObservation (by kernel_rfl) (fun y => y.1) c_laws_eqObservation.out (fun _ => rfl) c_laws_eqObservation.run (fun x => by kernel_rfl) (by kernel_rfl) (loops_mem loops_laws_eqObservation (trivial))

noncomputable def sg_laws_eqObservationS : Sig := ⟨[(false, [.sl .obs]), (false, [.sl .obs])], false, [(false, [.data (.bool)])]⟩
noncomputable def c_laws_eqObservationS : Con := ⟨sg_laws_eqObservationS, Bool, fun x => M_laws_eqObservationS x.1 x.2.1, fun r => (r, ())⟩
noncomputable def code_laws_eqObservationS : Code := Try.f20.body.getD .skip
noncomputable def body_laws_eqObservationS_0 : Code := (loopsIn code_laws_eqObservationS).getD 0 .skip
noncomputable def D_laws_eqObservationS_0 : LoopD := ⟨⟨mkSlots [(0, false, [.d (.sl .obs)]), (1, false, [.d (.sl .obs)]), (5, false, [.d (.int .i64)])] 27 0, []⟩, [], [(.ret, ⟨mkSlots [(4, false, [.d (.bool)])] 27 0, []⟩, []), (.exit 0, ⟨mkSlots [] 27 0, []⟩, [])]⟩
noncomputable def S_laws_eqObservationS_0_w (x : Tys D_laws_eqObservationS_0.head.ks) : Option (OutT D_laws_eqObservationS_0.outs) := @whileO ((List Obs) × (List Obs) × Int × Unit) ((Bool × Unit) ⊕ (Unit)) S_laws_eqObservationS_0 x
noncomputable def E_laws_eqObservationS : Env := ⟨lay, [(74, c_laws_eqObservation)], [(4, mkLM D_laws_eqObservationS_0 S_laws_eqObservationS_0_w)], [(6, [(0, []), (1, []), (2, []), (3, []), (4, []), (5, []), (6, []), (7, []), (8, [3, 7, 2, 6, 0, 1, 4, 5]), (9, [])])]⟩
theorem cons_laws_eqObservationS : ConsOk Try.prog E_laws_eqObservationS.cons := consOk_cons m_laws_eqObservation (callable_of Try.func74 (by kernel_rfl)) (consOk_nil)
theorem S_laws_eqObservationS_0_ok (x : Tys D_laws_eqObservationS_0.head.ks) : stepL E_laws_eqObservationS D_laws_eqObservationS_0 body_laws_eqObservationS_0 x = S_laws_eqObservationS_0 x := by kernel_rfl
theorem loops_laws_eqObservationS_0 : loopsIn body_laws_eqObservationS_0 = [] := by kernel_rfl
theorem l_laws_eqObservationS_0 : LoopOk Try.prog (mkLM D_laws_eqObservationS_0 S_laws_eqObservationS_0_w) body_laws_eqObservationS_0 := loop_ok2 mix lay_ok cons_laws_eqObservationS (by kernel_rfl) (loops_mem loops_laws_eqObservationS_0 (trivial)) S_laws_eqObservationS_0_ok fun _ _ h => h
theorem loops_laws_eqObservationS : loopsIn code_laws_eqObservationS = [body_laws_eqObservationS_0] := by kernel_rfl
theorem m_laws_eqObservationS : Meets Try.prog 20 c_laws_eqObservationS := meets_of (E := E_laws_eqObservationS) (code := code_laws_eqObservationS) mix lay_ok cons_laws_eqObservationS Try.func20 (by kernel_rfl) sg_laws_eqObservationS (by kernel_rfl) (fun y => y.1) c_laws_eqObservationS.out (fun _ => rfl) c_laws_eqObservationS.run (fun x => by kernel_rfl) (by kernel_rfl) (loops_mem loops_laws_eqObservationS (⟨⟨_, by kernel_rfl, l_laws_eqObservationS_0⟩, trivial⟩))

noncomputable def sg_laws_eqBook : Sig := ⟨[(true, [.bool, .sl .sta, .sl .obs]), (true, [.bool, .sl .sta, .sl .obs])], false, [(false, [.data (.bool)])]⟩
noncomputable def c_laws_eqBook : Con := ⟨sg_laws_eqBook, Bool, fun x => M_laws_eqBook (⟨x.1, x.2.1, x.2.2.1⟩ : Bk) (⟨x.2.2.2.1, x.2.2.2.2.1, x.2.2.2.2.2.1⟩ : Bk), fun r => (r, ())⟩
noncomputable def code_laws_eqBook : Code := Try.f29.body.getD .skip
noncomputable def E_laws_eqBook : Env := ⟨lay, [(63, c_laws_eqNetwork), (20, c_laws_eqObservationS)], [], []⟩
theorem cons_laws_eqBook : ConsOk Try.prog E_laws_eqBook.cons := consOk_cons m_laws_eqNetwork (callable_of Try.func63 (by kernel_rfl)) (consOk_cons m_laws_eqObservationS (callable_of Try.func20 (by kernel_rfl)) (consOk_nil))
theorem loops_laws_eqBook : loopsIn code_laws_eqBook = [] := by kernel_rfl
theorem m_laws_eqBook : Meets Try.prog 29 c_laws_eqBook := meets_of (E := E_laws_eqBook) (code := code_laws_eqBook) mix lay_ok cons_laws_eqBook Try.func29 (by kernel_rfl) sg_laws_eqBook (by kernel_rfl) (fun y => y.1) c_laws_eqBook.out (fun _ => rfl) c_laws_eqBook.run (fun x => by kernel_rfl) (by kernel_rfl) (loops_mem loops_laws_eqBook (trivial))

noncomputable def sg_laws_FnExactSameBooks : Sig := ⟨[(true, [.bool, .sl .sta, .sl .obs]), (true, [.bool, .sl .sta, .sl .obs])], false, [(false, [.data (.bool)])]⟩
noncomputable def c_laws_FnExactSameBooks : Con := ⟨sg_laws_FnExactSameBooks, Bool, fun x => M_laws_FnExactSameBooks (⟨x.1, x.2.1, x.2.2.1⟩ : Bk) (⟨x.2.2.2.1, x.2.2.2.2.1, x.2.2.2.2.2.1⟩ : Bk), fun r => (r, ())⟩
noncomputable def code_laws_FnExactSameBooks : Code := Try.f4.body.getD .skip
noncomputable def E_laws_FnExactSameBooks : Env := ⟨lay, [(25, c_laws_szBook), (27, c_laws_toBook), (26, c_spec_SameBooks), (28, c_impl_SameBooks), (29, c_laws_eqBook)], [], [(8, [(0, []), (2, []), (1, [0]), (3, [2, 1, 0]), (4, [1, 3, 0, 2]), (5, [4, 0, 1, 2, 3])]), (14, [(0, []), (1, []), (2, [1]), (3, [0, 2, 1]), (4, [])]), (16, [(0, []), (1, []), (2, [1]), (3, [0, 2, 1]), (4, [])])]⟩
theorem cons_laws_FnExactSameBooks : ConsOk Try.prog E_laws_FnExactSameBooks.cons := consOk_cons m_laws_szBook (callable_of Try.func25 (by kernel_rfl)) (consOk_cons m_laws_toBook (callable_of Try.func27 (by kernel_rfl)) (consOk_cons m_spec_SameBooks (callable_of Try.func26 (by kernel_rfl)) (consOk_cons m_impl_SameBooks (callable_of Try.func28 (by kernel_rfl)) (consOk_cons m_laws_eqBook (callable_of Try.func29 (by kernel_rfl)) (consOk_nil)))))
theorem loops_laws_FnExactSameBooks : loopsIn code_laws_FnExactSameBooks = [] := by kernel_rfl
theorem m_laws_FnExactSameBooks : Meets Try.prog 4 c_laws_FnExactSameBooks := meets_of (E := E_laws_FnExactSameBooks) (code := code_laws_FnExactSameBooks) mix lay_ok cons_laws_FnExactSameBooks Try.func4 (by kernel_rfl) sg_laws_FnExactSameBooks (by kernel_rfl) (fun y => y.1) c_laws_FnExactSameBooks.out (fun _ => rfl) c_laws_FnExactSameBooks.run (fun x => by kernel_rfl) (by kernel_rfl) (loops_mem loops_laws_FnExactSameBooks (trivial))
end Go.Proofs.Ytmkoafebmfoeaaa.WSameBooks
