/-
  Own work: part 8 of the texts that the proof of the given statement leans on.
-/
import Derived.Test.YtjdajoianejebaaProg
import Derived.Test.YtjdajoianejebaaZBookOkP00
/-
  Own work, written by program (gen.py): the functions that the statement reaches meet their contracts.
-/
open Go Go.Di Go.Proofs
namespace Go.Proofs.Ytjdajoianejebaa.WBookOk
noncomputable def lay : List (TypeId × TI) := [
  (3, ⟨false, [.d (.int .i64 0)], [], none, some (.int .i64), false⟩),
  (4, ⟨false, [.d (.bool false)], [], none, some .bool, false⟩),
  (5, ⟨false, [.d (.int .u8 0)], [], none, some (.int .u8), false⟩),
  (9, ⟨false, [.d (.str ByteArray.empty)], [], none, some .str, false⟩),
  (22, ⟨false, [.mt], [], some .int, none, false⟩),
  (24, ⟨true, [.d (.bool false), .mt], [(0, 1, false), (1, 1, false)], none, none, true⟩),
  (26, ⟨true, [.d (.bool false), .mt, .mt], [(0, 2, true), (2, 1, false)], none, none, true⟩),
  (28, ⟨true, [.d (.bool false), .mt], [(0, 1, false), (1, 1, false)], none, none, true⟩),
  (30, ⟨true, [.d (.bool false), .mt, .mt], [(0, 2, true), (2, 1, false)], none, none, true⟩),
  (39, ⟨false, [.mt], [], some .sta, none, false⟩),
  (41, ⟨true, [.d (.bool false), .mt], [(0, 1, false), (1, 1, false)], none, none, true⟩),
  (42, ⟨false, [.mt], [], some .obs, none, false⟩),
  (46, ⟨false, [.mt], [], some .sta, none, false⟩),
  (48, ⟨true, [.d (.bool false), .mt], [(0, 1, false), (1, 1, false)], none, none, true⟩),
  (50, ⟨false, [.mt], [], some .obs, none, false⟩),
  (72, ⟨true, [.d (.bool false), .mt, .mt], [(0, 2, true), (2, 1, false)], none, none, true⟩),
  (76, ⟨true, [.d (.bool false), .mt, .mt], [(0, 2, true), (2, 1, false)], none, none, true⟩),
  (89, ⟨true, [.d (.str ByteArray.empty), .d (.bool false), .mt, .mt, .d (.bool false), .mt, .mt, .d (.bool false)], [(0, 1, false), (1, 3, true), (4, 3, true), (7, 1, false)], none, none, true⟩),
  (124, ⟨true, [.d (.int .i64 0), .d (.int .i64 0), .d (.int .i64 0), .d (.bool false), .mt, .mt, .d (.bool false), .mt, .mt], [(0, 1, false), (1, 1, false), (2, 1, false), (3, 3, true), (6, 3, true)], none, none, true⟩),
  (126, ⟨true, [.d (.int .i64 0), .d (.int .i64 0), .d (.int .i64 0), .d (.bool false), .mt, .mt, .d (.bool false), .mt, .mt], [(0, 1, false), (1, 1, false), (2, 1, false), (3, 3, true), (6, 3, true)], none, none, true⟩),
  (170, ⟨true, [.d (.str ByteArray.empty), .d (.bool false), .mt, .mt, .d (.bool false), .mt, .mt, .d (.bool false)], [(0, 1, false), (1, 3, true), (4, 3, true), (7, 1, false)], none, none, true⟩)]
theorem lay_ok : LayOk Try.prog lay := layOk_ok (by kernel_rfl)
theorem mix : Try.prog.follows .mixedOrders = true := by kernel_rfl

noncomputable def sg_laws_szIntS : Sig := ⟨[(false, [.d (.sl .int)]), (false, [.d (.int .i64)])], [], false, [(false, [.d (.int .i64)])], []⟩
noncomputable def c_laws_szIntS : Con := ⟨sg_laws_szIntS, Int, fun x => M_laws_szIntS x.1 x.2.1, fun r => (r, ())⟩
noncomputable def code_laws_szIntS : Code := Try.f77.body.getD .skip
noncomputable def E_laws_szIntS : Env := ⟨lay, [], [], []⟩
theorem cons_laws_szIntS : ConsOk Try.prog E_laws_szIntS.cons := consOk_nil
theorem loops_laws_szIntS : loopsIn code_laws_szIntS = [] := by kernel_rfl
theorem m_laws_szIntS : Meets Try.prog 77 c_laws_szIntS := meets_of (E := E_laws_szIntS) (code := code_laws_szIntS) mix lay_ok cons_laws_szIntS Try.func77 (by kernel_rfl) sg_laws_szIntS (by kernel_rfl) (fun y => y.1) c_laws_szIntS.out (fun _ => rfl) c_laws_szIntS.run (fun x => by kernel_rfl) (by kernel_rfl) (loops_mem loops_laws_szIntS (trivial))

noncomputable def sg_laws_szBigInt : Sig := ⟨[(true, [.d (.bool), .d (.sl .int)]), (false, [.d (.int .i64)])], [], false, [(false, [.d (.int .i64)])], []⟩
noncomputable def c_laws_szBigInt : Con := ⟨sg_laws_szBigInt, Int, fun x => M_laws_szBigInt (⟨x.1, x.2.1⟩ : Bg) x.2.2.1, fun r => (r, ())⟩
noncomputable def code_laws_szBigInt : Code := Try.f76.body.getD .skip
noncomputable def E_laws_szBigInt : Env := ⟨lay, [(77, c_laws_szIntS)], [], []⟩
theorem cons_laws_szBigInt : ConsOk Try.prog E_laws_szBigInt.cons := consOk_cons m_laws_szIntS (callable_of Try.func77 (by kernel_rfl)) (consOk_nil)
theorem loops_laws_szBigInt : loopsIn code_laws_szBigInt = [] := by kernel_rfl
theorem m_laws_szBigInt : Meets Try.prog 76 c_laws_szBigInt := meets_of (E := E_laws_szBigInt) (code := code_laws_szBigInt) mix lay_ok cons_laws_szBigInt Try.func76 (by kernel_rfl) sg_laws_szBigInt (by kernel_rfl) (fun y => y.1) c_laws_szBigInt.out (fun _ => rfl) c_laws_szBigInt.run (fun x => by kernel_rfl) (by kernel_rfl) (loops_mem loops_laws_szBigInt (trivial))

noncomputable def sg_laws_szRat : Sig := ⟨[(true, [.d (.bool), .d (.sl .int), .d (.sl .int)]), (false, [.d (.int .i64)])], [], false, [(false, [.d (.int .i64)])], []⟩
noncomputable def c_laws_szRat : Con := ⟨sg_laws_szRat, Int, fun x => M_laws_szRat (⟨x.1, x.2.1, x.2.2.1⟩ : Rt) x.2.2.2.1, fun r => (r, ())⟩
noncomputable def code_laws_szRat : Code := Try.f15.body.getD .skip
noncomputable def E_laws_szRat : Env := ⟨lay, [(76, c_laws_szBigInt), (77, c_laws_szIntS)], [], []⟩
theorem cons_laws_szRat : ConsOk Try.prog E_laws_szRat.cons := consOk_cons m_laws_szBigInt (callable_of Try.func76 (by kernel_rfl)) (consOk_cons m_laws_szIntS (callable_of Try.func77 (by kernel_rfl)) (consOk_nil))
theorem loops_laws_szRat : loopsIn code_laws_szRat = [] := by kernel_rfl
theorem m_laws_szRat : Meets Try.prog 15 c_laws_szRat := meets_of (E := E_laws_szRat) (code := code_laws_szRat) mix lay_ok cons_laws_szRat Try.func15 (by kernel_rfl) sg_laws_szRat (by kernel_rfl) (fun y => y.1) c_laws_szRat.out (fun _ => rfl) c_laws_szRat.run (fun x => by kernel_rfl) (by kernel_rfl) (loops_mem loops_laws_szRat (trivial))

noncomputable def sg_laws_szStation : Sig := ⟨[(true, [.d (.str), .d (.bool), .d (.sl .int), .d (.sl .int), .d (.bool), .d (.sl .int), .d (.sl .int), .d (.bool)]), (false, [.d (.int .i64)])], [], false, [(false, [.d (.int .i64)])], []⟩
noncomputable def c_laws_szStation : Con := ⟨sg_laws_szStation, Int, fun x => M_laws_szStation (⟨x.1, (⟨x.2.1, x.2.2.1, x.2.2.2.1⟩ : Rt), (⟨x.2.2.2.2.1, x.2.2.2.2.2.1, x.2.2.2.2.2.2.1⟩ : Rt), x.2.2.2.2.2.2.2.1⟩ : Sta) x.2.2.2.2.2.2.2.2.1, fun r => (r, ())⟩
noncomputable def code_laws_szStation : Code := Try.f170.body.getD .skip
noncomputable def E_laws_szStation : Env := ⟨lay, [(15, c_laws_szRat)], [], []⟩
theorem cons_laws_szStation : ConsOk Try.prog E_laws_szStation.cons := consOk_cons m_laws_szRat (callable_of Try.func15 (by kernel_rfl)) (consOk_nil)
theorem loops_laws_szStation : loopsIn code_laws_szStation = [] := by kernel_rfl
theorem m_laws_szStation : Meets Try.prog 170 c_laws_szStation := meets_of (E := E_laws_szStation) (code := code_laws_szStation) mix lay_ok cons_laws_szStation Try.func170 (by kernel_rfl) sg_laws_szStation (by kernel_rfl) (fun y => y.1) c_laws_szStation.out (fun _ => rfl) c_laws_szStation.run (fun x => by kernel_rfl) (by kernel_rfl) (loops_mem loops_laws_szStation (trivial))

noncomputable def sg_laws_szStationS : Sig := ⟨[(false, [.d (.sl .sta)]), (false, [.d (.int .i64)])], [], false, [(false, [.d (.int .i64)])], []⟩
noncomputable def c_laws_szStationS : Con := ⟨sg_laws_szStationS, Int, fun x => M_laws_szStationS x.1 x.2.1, fun r => (r, ())⟩
noncomputable def code_laws_szStationS : Code := Try.f99.body.getD .skip
noncomputable def body_laws_szStationS_0 : Code := (loopsIn code_laws_szStationS).getD 0 .skip
noncomputable def D_laws_szStationS_0 : LoopD := ⟨⟨mkSlots [(0, false, [.d (.sl .sta)]), (1, false, [.d (.int .i64)]), (5, false, [.d (.int .i64)])] 27 0, []⟩, [], [(.ret, ⟨mkSlots [(4, false, [.d (.int .i64)])] 27 0, []⟩, []), (.exit 0, ⟨mkSlots [(1, false, [.d (.int .i64)])] 27 0, []⟩, [])]⟩
noncomputable def S_laws_szStationS_0_w (x : Tys D_laws_szStationS_0.head.ks) : Option (OutT D_laws_szStationS_0.outs) := @whileO ((List Sta) × Int × Int × Unit) ((Int × Unit) ⊕ (Int × Unit)) S_laws_szStationS_0 x
noncomputable def E_laws_szStationS : Env := ⟨lay, [(170, c_laws_szStation)], [(5, mkLM D_laws_szStationS_0 S_laws_szStationS_0_w)], []⟩
theorem cons_laws_szStationS : ConsOk Try.prog E_laws_szStationS.cons := consOk_cons m_laws_szStation (callable_of Try.func170 (by kernel_rfl)) (consOk_nil)
theorem S_laws_szStationS_0_ok (x : Tys D_laws_szStationS_0.head.ks) : stepL E_laws_szStationS D_laws_szStationS_0 body_laws_szStationS_0 x = S_laws_szStationS_0 x := by kernel_rfl
theorem loops_laws_szStationS_0 : loopsIn body_laws_szStationS_0 = [] := by kernel_rfl
theorem l_laws_szStationS_0 : LoopOk Try.prog (mkLM D_laws_szStationS_0 S_laws_szStationS_0_w) body_laws_szStationS_0 := loop_ok2 mix lay_ok cons_laws_szStationS (by kernel_rfl) (loops_mem loops_laws_szStationS_0 (trivial)) S_laws_szStationS_0_ok fun _ _ h => h
theorem loops_laws_szStationS : loopsIn code_laws_szStationS = [body_laws_szStationS_0] := by kernel_rfl
theorem m_laws_szStationS : Meets Try.prog 99 c_laws_szStationS := meets_of (E := E_laws_szStationS) (code := code_laws_szStationS) mix lay_ok cons_laws_szStationS Try.func99 (by kernel_rfl) sg_laws_szStationS (by kernel_rfl) (fun y => y.1) c_laws_szStationS.out (fun _ => rfl) c_laws_szStationS.run (fun x => by kernel_rfl) (by kernel_rfl) (loops_mem loops_laws_szStationS (⟨⟨_, by kernel_rfl, l_laws_szStationS_0⟩, trivial⟩))

noncomputable def sg_laws_szNetwork : Sig := ⟨[(true, [.d (.bool), .d (.sl .sta)]), (false, [.d (.int .i64)])], [], false, [(false, [.d (.int .i64)])], []⟩
noncomputable def c_laws_szNetwork : Con := ⟨sg_laws_szNetwork, Int, fun x => M_laws_szNetwork (⟨x.1, x.2.1⟩ : Net) x.2.2.1, fun r => (r, ())⟩
noncomputable def code_laws_szNetwork : Code := Try.f26.body.getD .skip
noncomputable def E_laws_szNetwork : Env := ⟨lay, [(99, c_laws_szStationS)], [], []⟩
theorem cons_laws_szNetwork : ConsOk Try.prog E_laws_szNetwork.cons := consOk_cons m_laws_szStationS (callable_of Try.func99 (by kernel_rfl)) (consOk_nil)
theorem loops_laws_szNetwork : loopsIn code_laws_szNetwork = [] := by kernel_rfl
theorem m_laws_szNetwork : Meets Try.prog 26 c_laws_szNetwork := meets_of (E := E_laws_szNetwork) (code := code_laws_szNetwork) mix lay_ok cons_laws_szNetwork Try.func26 (by kernel_rfl) sg_laws_szNetwork (by kernel_rfl) (fun y => y.1) c_laws_szNetwork.out (fun _ => rfl) c_laws_szNetwork.run (fun x => by kernel_rfl) (by kernel_rfl) (loops_mem loops_laws_szNetwork (trivial))

noncomputable def sg_laws_szObservation : Sig := ⟨[(true, [.d (.int .i64), .d (.int .i64), .d (.int .i64), .d (.bool), .d (.sl .int), .d (.sl .int), .d (.bool), .d (.sl .int), .d (.sl .int)]), (false, [.d (.int .i64)])], [], false, [(false, [.d (.int .i64)])], []⟩
noncomputable def c_laws_szObservation : Con := ⟨sg_laws_szObservation, Int, fun x => M_laws_szObservation (⟨x.1, x.2.1, x.2.2.1, (⟨x.2.2.2.1, x.2.2.2.2.1, x.2.2.2.2.2.1⟩ : Rt), (⟨x.2.2.2.2.2.2.1, x.2.2.2.2.2.2.2.1, x.2.2.2.2.2.2.2.2.1⟩ : Rt)⟩ : Obs) x.2.2.2.2.2.2.2.2.2.1, fun r => (r, ())⟩
noncomputable def code_laws_szObservation : Code := Try.f100.body.getD .skip
noncomputable def E_laws_szObservation : Env := ⟨lay, [(15, c_laws_szRat)], [], []⟩
theorem cons_laws_szObservation : ConsOk Try.prog E_laws_szObservation.cons := consOk_cons m_laws_szRat (callable_of Try.func15 (by kernel_rfl)) (consOk_nil)
theorem loops_laws_szObservation : loopsIn code_laws_szObservation = [] := by kernel_rfl
theorem m_laws_szObservation : Meets Try.prog 100 c_laws_szObservation := meets_of (E := E_laws_szObservation) (code := code_laws_szObservation) mix lay_ok cons_laws_szObservation Try.func100 (by kernel_rfl) sg_laws_szObservation (by kernel_rfl) (fun y => y.1) c_laws_szObservation.out (fun _ => rfl) c_laws_szObservation.run (fun x => by kernel_rfl) (by kernel_rfl) (loops_mem loops_laws_szObservation (trivial))

noncomputable def sg_laws_szObservationS : Sig := ⟨[(false, [.d (.sl .obs)]), (false, [.d (.int .i64)])], [], false, [(false, [.d (.int .i64)])], []⟩
noncomputable def c_laws_szObservationS : Con := ⟨sg_laws_szObservationS, Int, fun x => M_laws_szObservationS x.1 x.2.1, fun r => (r, ())⟩
noncomputable def code_laws_szObservationS : Code := Try.f27.body.getD .skip
noncomputable def body_laws_szObservationS_0 : Code := (loopsIn code_laws_szObservationS).getD 0 .skip
noncomputable def D_laws_szObservationS_0 : LoopD := ⟨⟨mkSlots [(0, false, [.d (.sl .obs)]), (1, false, [.d (.int .i64)]), (5, false, [.d (.int .i64)])] 27 0, []⟩, [], [(.ret, ⟨mkSlots [(4, false, [.d (.int .i64)])] 27 0, []⟩, []), (.exit 0, ⟨mkSlots [(1, false, [.d (.int .i64)])] 27 0, []⟩, [])]⟩
noncomputable def S_laws_szObservationS_0_w (x : Tys D_laws_szObservationS_0.head.ks) : Option (OutT D_laws_szObservationS_0.outs) := @whileO ((List Obs) × Int × Int × Unit) ((Int × Unit) ⊕ (Int × Unit)) S_laws_szObservationS_0 x
noncomputable def E_laws_szObservationS : Env := ⟨lay, [(100, c_laws_szObservation)], [(5, mkLM D_laws_szObservationS_0 S_laws_szObservationS_0_w)], []⟩
theorem cons_laws_szObservationS : ConsOk Try.prog E_laws_szObservationS.cons := consOk_cons m_laws_szObservation (callable_of Try.func100 (by kernel_rfl)) (consOk_nil)
theorem S_laws_szObservationS_0_ok (x : Tys D_laws_szObservationS_0.head.ks) : stepL E_laws_szObservationS D_laws_szObservationS_0 body_laws_szObservationS_0 x = S_laws_szObservationS_0 x := by kernel_rfl
theorem loops_laws_szObservationS_0 : loopsIn body_laws_szObservationS_0 = [] := by kernel_rfl
theorem l_laws_szObservationS_0 : LoopOk Try.prog (mkLM D_laws_szObservationS_0 S_laws_szObservationS_0_w) body_laws_szObservationS_0 := loop_ok2 mix lay_ok cons_laws_szObservationS (by kernel_rfl) (loops_mem loops_laws_szObservationS_0 (trivial)) S_laws_szObservationS_0_ok fun _ _ h => h
theorem loops_laws_szObservationS : loopsIn code_laws_szObservationS = [body_laws_szObservationS_0] := by kernel_rfl
theorem m_laws_szObservationS : Meets Try.prog 27 c_laws_szObservationS := meets_of (E := E_laws_szObservationS) (code := code_laws_szObservationS) mix lay_ok cons_laws_szObservationS Try.func27 (by kernel_rfl) sg_laws_szObservationS (by kernel_rfl) (fun y => y.1) c_laws_szObservationS.out (fun _ => rfl) c_laws_szObservationS.run (fun x => by kernel_rfl) (by kernel_rfl) (loops_mem loops_laws_szObservationS (⟨⟨_, by kernel_rfl, l_laws_szObservationS_0⟩, trivial⟩))

noncomputable def sg_laws_szBook : Sig := ⟨[(true, [.d (.bool), .d (.sl .sta), .d (.sl .obs)]), (false, [.d (.int .i64)])], [], false, [(false, [.d (.int .i64)])], []⟩
noncomputable def c_laws_szBook : Con := ⟨sg_laws_szBook, Int, fun x => M_laws_szBook (⟨x.1, x.2.1, x.2.2.1⟩ : Bk) x.2.2.2.1, fun r => (r, ())⟩
noncomputable def code_laws_szBook : Code := Try.f41.body.getD .skip
noncomputable def E_laws_szBook : Env := ⟨lay, [(26, c_laws_szNetwork), (27, c_laws_szObservationS)], [], []⟩
theorem cons_laws_szBook : ConsOk Try.prog E_laws_szBook.cons := consOk_cons m_laws_szNetwork (callable_of Try.func26 (by kernel_rfl)) (consOk_cons m_laws_szObservationS (callable_of Try.func27 (by kernel_rfl)) (consOk_nil))
theorem loops_laws_szBook : loopsIn code_laws_szBook = [] := by kernel_rfl
theorem m_laws_szBook : Meets Try.prog 41 c_laws_szBook := meets_of (E := E_laws_szBook) (code := code_laws_szBook) mix lay_ok cons_laws_szBook Try.func41 (by kernel_rfl) sg_laws_szBook (by kernel_rfl) (fun y => y.1) c_laws_szBook.out (fun _ => rfl) c_laws_szBook.run (fun x => by kernel_rfl) (by kernel_rfl) (loops_mem loops_laws_szBook (trivial))

noncomputable def sg_laws_toIntS : Sig := ⟨[(false, [.d (.sl .int)])], [], false, [(false, [.own 0])], [(0, .arr false .int)]⟩
noncomputable def c_laws_toIntS : Con := ⟨sg_laws_toIntS, List Int, fun x => M_laws_toIntS x.1, fun r => (r, ())⟩
noncomputable def code_laws_toIntS : Code := Try.f81.body.getD .skip
noncomputable def body_laws_toIntS_0 : Code := (loopsIn code_laws_toIntS).getD 0 .skip
noncomputable def D_laws_toIntS_0 : LoopD := ⟨⟨mkSlots [(0, false, [.d (.sl .int)]), (3, false, [.own 1472]), (4, false, [.d (.int .i64)])] 22 0, [(1472, .arr false .int)]⟩, [], [(.exit 0, ⟨mkSlots [(3, false, [.own 1472])] 22 0, [(1472, .arr false .int)]⟩, [])]⟩
noncomputable def S_laws_toIntS_0_w (x : Tys D_laws_toIntS_0.head.ks) : Option (OutT D_laws_toIntS_0.outs) := @whileO ((List Int) × Int × (List Int) × Unit) ((List Int) × Unit) S_laws_toIntS_0 x
noncomputable def E_laws_toIntS : Env := ⟨lay, [], [(3, mkLM D_laws_toIntS_0 S_laws_toIntS_0_w)], []⟩
theorem cons_laws_toIntS : ConsOk Try.prog E_laws_toIntS.cons := consOk_nil
theorem S_laws_toIntS_0_ok (x : Tys D_laws_toIntS_0.head.ks) : stepL E_laws_toIntS D_laws_toIntS_0 body_laws_toIntS_0 x = S_laws_toIntS_0 x := by kernel_rfl
theorem loops_laws_toIntS_0 : loopsIn body_laws_toIntS_0 = [] := by kernel_rfl
theorem l_laws_toIntS_0 : LoopOk Try.prog (mkLM D_laws_toIntS_0 S_laws_toIntS_0_w) body_laws_toIntS_0 := loop_ok2 mix lay_ok cons_laws_toIntS (by kernel_rfl) (loops_mem loops_laws_toIntS_0 (trivial)) S_laws_toIntS_0_ok fun _ _ h => h
theorem loops_laws_toIntS : loopsIn code_laws_toIntS = [body_laws_toIntS_0] := by kernel_rfl
theorem m_laws_toIntS : Meets Try.prog 81 c_laws_toIntS := meets_of (E := E_laws_toIntS) (code := code_laws_toIntS) mix lay_ok cons_laws_toIntS Try.func81 (by kernel_rfl) sg_laws_toIntS (by kernel_rfl) (fun y => y.1) c_laws_toIntS.out (fun _ => rfl) c_laws_toIntS.run (fun x => by kernel_rfl) (by kernel_rfl) (loops_mem loops_laws_toIntS (⟨⟨_, by kernel_rfl, l_laws_toIntS_0⟩, trivial⟩))

noncomputable def sg_laws_toBigInt : Sig := ⟨[(true, [.d (.bool), .d (.sl .int)])], [], false, [(true, [.d (.bool), .own 0])], [(0, .arr false .int)]⟩
noncomputable def c_laws_toBigInt : Con := ⟨sg_laws_toBigInt, Bg, fun x => M_laws_toBigInt (⟨x.1, x.2.1⟩ : Bg), fun r => (r.neg, r.mag, ())⟩
noncomputable def code_laws_toBigInt : Code := Try.f80.body.getD .skip
noncomputable def E_laws_toBigInt : Env := ⟨lay, [(81, c_laws_toIntS)], [], []⟩
theorem cons_laws_toBigInt : ConsOk Try.prog E_laws_toBigInt.cons := consOk_cons m_laws_toIntS (callable_of Try.func81 (by kernel_rfl)) (consOk_nil)
theorem loops_laws_toBigInt : loopsIn code_laws_toBigInt = [] := by kernel_rfl
theorem m_laws_toBigInt : Meets Try.prog 80 c_laws_toBigInt := meets_of (E := E_laws_toBigInt) (code := code_laws_toBigInt) mix lay_ok cons_laws_toBigInt Try.func80 (by kernel_rfl) sg_laws_toBigInt (by kernel_rfl) (fun y => (⟨y.1, y.2.1⟩ : Bg)) c_laws_toBigInt.out (fun _ => rfl) c_laws_toBigInt.run (fun x => by kernel_rfl) (by kernel_rfl) (loops_mem loops_laws_toBigInt (trivial))

noncomputable def sg_laws_toRat : Sig := ⟨[(true, [.d (.bool), .d (.sl .int), .d (.sl .int)])], [], false, [(true, [.d (.bool), .own 0, .own 1])], [(0, .arr false .int), (1, .arr false .int)]⟩
noncomputable def c_laws_toRat : Con := ⟨sg_laws_toRat, Rt, fun x => M_laws_toRat (⟨x.1, x.2.1, x.2.2.1⟩ : Rt), fun r => (r.neg, r.mag, r.den, ())⟩
noncomputable def code_laws_toRat : Code := Try.f17.body.getD .skip
noncomputable def E_laws_toRat : Env := ⟨lay, [(80, c_laws_toBigInt), (81, c_laws_toIntS)], [], []⟩
theorem cons_laws_toRat : ConsOk Try.prog E_laws_toRat.cons := consOk_cons m_laws_toBigInt (callable_of Try.func80 (by kernel_rfl)) (consOk_cons m_laws_toIntS (callable_of Try.func81 (by kernel_rfl)) (consOk_nil))
theorem loops_laws_toRat : loopsIn code_laws_toRat = [] := by kernel_rfl
theorem m_laws_toRat : Meets Try.prog 17 c_laws_toRat := meets_of (E := E_laws_toRat) (code := code_laws_toRat) mix lay_ok cons_laws_toRat Try.func17 (by kernel_rfl) sg_laws_toRat (by kernel_rfl) (fun y => (⟨y.1, y.2.1, y.2.2.1⟩ : Rt)) c_laws_toRat.out (fun _ => rfl) c_laws_toRat.run (fun x => by kernel_rfl) (by kernel_rfl) (loops_mem loops_laws_toRat (trivial))

noncomputable def sg_laws_toStation : Sig := ⟨[(true, [.d (.str), .d (.bool), .d (.sl .int), .d (.sl .int), .d (.bool), .d (.sl .int), .d (.sl .int), .d (.bool)])], [], false, [(true, [.d (.str), .d (.bool), .own 0, .own 1, .d (.bool), .own 2, .own 3, .d (.bool)])], [(0, .arr false .int), (1, .arr false .int), (2, .arr false .int), (3, .arr false .int)]⟩
noncomputable def c_laws_toStation : Con := ⟨sg_laws_toStation, Sta, fun x => M_laws_toStation (⟨x.1, (⟨x.2.1, x.2.2.1, x.2.2.2.1⟩ : Rt), (⟨x.2.2.2.2.1, x.2.2.2.2.2.1, x.2.2.2.2.2.2.1⟩ : Rt), x.2.2.2.2.2.2.2.1⟩ : Sta), fun r => (r.name, r.x.neg, r.y.neg, r.fixed, r.x.mag, r.x.den, r.y.mag, r.y.den, ())⟩
noncomputable def code_laws_toStation : Code := Try.f177.body.getD .skip
noncomputable def E_laws_toStation : Env := ⟨lay, [(17, c_laws_toRat)], [], []⟩
theorem cons_laws_toStation : ConsOk Try.prog E_laws_toStation.cons := consOk_cons m_laws_toRat (callable_of Try.func17 (by kernel_rfl)) (consOk_nil)
theorem loops_laws_toStation : loopsIn code_laws_toStation = [] := by kernel_rfl
theorem m_laws_toStation : Meets Try.prog 177 c_laws_toStation := meets_of (E := E_laws_toStation) (code := code_laws_toStation) mix lay_ok cons_laws_toStation Try.func177 (by kernel_rfl) sg_laws_toStation (by kernel_rfl) (fun y => (⟨y.1, (⟨y.2.1, y.2.2.2.2.1, y.2.2.2.2.2.1⟩ : Rt), (⟨y.2.2.1, y.2.2.2.2.2.2.1, y.2.2.2.2.2.2.2.1⟩ : Rt), y.2.2.2.1⟩ : Sta)) c_laws_toStation.out (fun _ => rfl) c_laws_toStation.run (fun x => by kernel_rfl) (by kernel_rfl) (loops_mem loops_laws_toStation (trivial))

noncomputable def sg_laws_toStationS : Sig := ⟨[(false, [.d (.sl .sta)])], [], false, [(false, [.own 0])], [(0, .arr false .sta)]⟩
noncomputable def c_laws_toStationS : Con := ⟨sg_laws_toStationS, List Sta, fun x => M_laws_toStationS x.1, fun r => (r, ())⟩
noncomputable def code_laws_toStationS : Code := Try.f103.body.getD .skip
noncomputable def body_laws_toStationS_0 : Code := (loopsIn code_laws_toStationS).getD 0 .skip
noncomputable def D_laws_toStationS_0 : LoopD := ⟨⟨mkSlots [(0, false, [.d (.sl .sta)]), (3, false, [.own 1536]), (4, false, [.d (.int .i64)])] 23 0, [(1536, .arr false .sta)]⟩, [], [(.exit 0, ⟨mkSlots [(3, false, [.own 1536])] 23 0, [(1536, .arr false .sta)]⟩, [])]⟩
noncomputable def S_laws_toStationS_0_w (x : Tys D_laws_toStationS_0.head.ks) : Option (OutT D_laws_toStationS_0.outs) := @whileO ((List Sta) × Int × (List Sta) × Unit) ((List Sta) × Unit) S_laws_toStationS_0 x
noncomputable def E_laws_toStationS : Env := ⟨lay, [(177, c_laws_toStation)], [(3, mkLM D_laws_toStationS_0 S_laws_toStationS_0_w)], []⟩
theorem cons_laws_toStationS : ConsOk Try.prog E_laws_toStationS.cons := consOk_cons m_laws_toStation (callable_of Try.func177 (by kernel_rfl)) (consOk_nil)
theorem S_laws_toStationS_0_ok (x : Tys D_laws_toStationS_0.head.ks) : stepL E_laws_toStationS D_laws_toStationS_0 body_laws_toStationS_0 x = S_laws_toStationS_0 x := by kernel_rfl
theorem loops_laws_toStationS_0 : loopsIn body_laws_toStationS_0 = [] := by kernel_rfl
theorem l_laws_toStationS_0 : LoopOk Try.prog (mkLM D_laws_toStationS_0 S_laws_toStationS_0_w) body_laws_toStationS_0 := loop_ok2 mix lay_ok cons_laws_toStationS (by kernel_rfl) (loops_mem loops_laws_toStationS_0 (trivial)) S_laws_toStationS_0_ok fun _ _ h => h
theorem loops_laws_toStationS : loopsIn code_laws_toStationS = [body_laws_toStationS_0] := by kernel_rfl
theorem m_laws_toStationS : Meets Try.prog 103 c_laws_toStationS := meets_of (E := E_laws_toStationS) (code := code_laws_toStationS) mix lay_ok cons_laws_toStationS Try.func103 (by kernel_rfl) sg_laws_toStationS (by kernel_rfl) (fun y => y.1) c_laws_toStationS.out (fun _ => rfl) c_laws_toStationS.run (fun x => by kernel_rfl) (by kernel_rfl) (loops_mem loops_laws_toStationS (⟨⟨_, by kernel_rfl, l_laws_toStationS_0⟩, trivial⟩))

noncomputable def sg_laws_toNetwork : Sig := ⟨[(true, [.d (.bool), .d (.sl .sta)])], [], false, [(true, [.d (.bool), .own 0])], [(0, .arr false .sta)]⟩
noncomputable def c_laws_toNetwork : Con := ⟨sg_laws_toNetwork, Net, fun x => M_laws_toNetwork (⟨x.1, x.2.1⟩ : Net), fun r => (r.plane, r.stations, ())⟩
noncomputable def code_laws_toNetwork : Code := Try.f29.body.getD .skip
noncomputable def E_laws_toNetwork : Env := ⟨lay, [(103, c_laws_toStationS)], [], []⟩
theorem cons_laws_toNetwork : ConsOk Try.prog E_laws_toNetwork.cons := consOk_cons m_laws_toStationS (callable_of Try.func103 (by kernel_rfl)) (consOk_nil)
theorem loops_laws_toNetwork : loopsIn code_laws_toNetwork = [] := by kernel_rfl
theorem m_laws_toNetwork : Meets Try.prog 29 c_laws_toNetwork := meets_of (E := E_laws_toNetwork) (code := code_laws_toNetwork) mix lay_ok cons_laws_toNetwork Try.func29 (by kernel_rfl) sg_laws_toNetwork (by kernel_rfl) (fun y => (⟨y.1, y.2.1⟩ : Net)) c_laws_toNetwork.out (fun _ => rfl) c_laws_toNetwork.run (fun x => by kernel_rfl) (by kernel_rfl) (loops_mem loops_laws_toNetwork (trivial))

noncomputable def sg_laws_toObservation : Sig := ⟨[(true, [.d (.int .i64), .d (.int .i64), .d (.int .i64), .d (.bool), .d (.sl .int), .d (.sl .int), .d (.bool), .d (.sl .int), .d (.sl .int)])], [], false, [(true, [.d (.int .i64), .d (.int .i64), .d (.int .i64), .d (.bool), .own 0, .own 1, .d (.bool), .own 2, .own 3])], [(0, .arr false .int), (1, .arr false .int), (2, .arr false .int), (3, .arr false .int)]⟩
noncomputable def c_laws_toObservation : Con := ⟨sg_laws_toObservation, Obs, fun x => M_laws_toObservation (⟨x.1, x.2.1, x.2.2.1, (⟨x.2.2.2.1, x.2.2.2.2.1, x.2.2.2.2.2.1⟩ : Rt), (⟨x.2.2.2.2.2.2.1, x.2.2.2.2.2.2.2.1, x.2.2.2.2.2.2.2.2.1⟩ : Rt)⟩ : Obs), fun r => (r.kind, r.frm, r.to, r.value.neg, r.variance.neg, r.value.mag, r.value.den, r.variance.mag, r.variance.den, ())⟩
noncomputable def code_laws_toObservation : Code := Try.f104.body.getD .skip
noncomputable def E_laws_toObservation : Env := ⟨lay, [(17, c_laws_toRat)], [], []⟩
theorem cons_laws_toObservation : ConsOk Try.prog E_laws_toObservation.cons := consOk_cons m_laws_toRat (callable_of Try.func17 (by kernel_rfl)) (consOk_nil)
theorem loops_laws_toObservation : loopsIn code_laws_toObservation = [] := by kernel_rfl
theorem m_laws_toObservation : Meets Try.prog 104 c_laws_toObservation := meets_of (E := E_laws_toObservation) (code := code_laws_toObservation) mix lay_ok cons_laws_toObservation Try.func104 (by kernel_rfl) sg_laws_toObservation (by kernel_rfl) (fun y => (⟨y.1, y.2.1, y.2.2.1, (⟨y.2.2.2.1, y.2.2.2.2.2.1, y.2.2.2.2.2.2.1⟩ : Rt), (⟨y.2.2.2.2.1, y.2.2.2.2.2.2.2.1, y.2.2.2.2.2.2.2.2.1⟩ : Rt)⟩ : Obs)) c_laws_toObservation.out (fun _ => rfl) c_laws_toObservation.run (fun x => by kernel_rfl) (by kernel_rfl) (loops_mem loops_laws_toObservation (trivial))

noncomputable def sg_laws_toObservationS : Sig := ⟨[(false, [.d (.sl .obs)])], [], false, [(false, [.own 0])], [(0, .arr false .obs)]⟩
noncomputable def c_laws_toObservationS : Con := ⟨sg_laws_toObservationS, List Obs, fun x => M_laws_toObservationS x.1, fun r => (r, ())⟩
noncomputable def code_laws_toObservationS : Code := Try.f30.body.getD .skip
noncomputable def body_laws_toObservationS_0 : Code := (loopsIn code_laws_toObservationS).getD 0 .skip
noncomputable def D_laws_toObservationS_0 : LoopD := ⟨⟨mkSlots [(0, false, [.d (.sl .obs)]), (3, false, [.own 1536]), (4, false, [.d (.int .i64)])] 23 0, [(1536, .arr false .obs)]⟩, [], [(.exit 0, ⟨mkSlots [(3, false, [.own 1536])] 23 0, [(1536, .arr false .obs)]⟩, [])]⟩
noncomputable def S_laws_toObservationS_0_w (x : Tys D_laws_toObservationS_0.head.ks) : Option (OutT D_laws_toObservationS_0.outs) := @whileO ((List Obs) × Int × (List Obs) × Unit) ((List Obs) × Unit) S_laws_toObservationS_0 x
noncomputable def E_laws_toObservationS : Env := ⟨lay, [(104, c_laws_toObservation)], [(3, mkLM D_laws_toObservationS_0 S_laws_toObservationS_0_w)], []⟩
theorem cons_laws_toObservationS : ConsOk Try.prog E_laws_toObservationS.cons := consOk_cons m_laws_toObservation (callable_of Try.func104 (by kernel_rfl)) (consOk_nil)
theorem S_laws_toObservationS_0_ok (x : Tys D_laws_toObservationS_0.head.ks) : stepL E_laws_toObservationS D_laws_toObservationS_0 body_laws_toObservationS_0 x = S_laws_toObservationS_0 x := by kernel_rfl
theorem loops_laws_toObservationS_0 : loopsIn body_laws_toObservationS_0 = [] := by kernel_rfl
theorem l_laws_toObservationS_0 : LoopOk Try.prog (mkLM D_laws_toObservationS_0 S_laws_toObservationS_0_w) body_laws_toObservationS_0 := loop_ok2 mix lay_ok cons_laws_toObservationS (by kernel_rfl) (loops_mem loops_laws_toObservationS_0 (trivial)) S_laws_toObservationS_0_ok fun _ _ h => h
theorem loops_laws_toObservationS : loopsIn code_laws_toObservationS = [body_laws_toObservationS_0] := by kernel_rfl
theorem m_laws_toObservationS : Meets Try.prog 30 c_laws_toObservationS := meets_of (E := E_laws_toObservationS) (code := code_laws_toObservationS) mix lay_ok cons_laws_toObservationS Try.func30 (by kernel_rfl) sg_laws_toObservationS (by kernel_rfl) (fun y => y.1) c_laws_toObservationS.out (fun _ => rfl) c_laws_toObservationS.run (fun x => by kernel_rfl) (by kernel_rfl) (loops_mem loops_laws_toObservationS (⟨⟨_, by kernel_rfl, l_laws_toObservationS_0⟩, trivial⟩))

noncomputable def sg_laws_toBook : Sig := ⟨[(true, [.d (.bool), .d (.sl .sta), .d (.sl .obs)])], [], false, [(true, [.d (.bool), .own 0, .own 1])], [(0, .arr false .sta), (1, .arr false .obs)]⟩
noncomputable def c_laws_toBook : Con := ⟨sg_laws_toBook, Bk, fun x => M_laws_toBook (⟨x.1, x.2.1, x.2.2.1⟩ : Bk), fun r => (r.plane, r.stations, r.obs, ())⟩
noncomputable def code_laws_toBook : Code := Try.f43.body.getD .skip
noncomputable def E_laws_toBook : Env := ⟨lay, [(29, c_laws_toNetwork), (30, c_laws_toObservationS)], [], []⟩
theorem cons_laws_toBook : ConsOk Try.prog E_laws_toBook.cons := consOk_cons m_laws_toNetwork (callable_of Try.func29 (by kernel_rfl)) (consOk_cons m_laws_toObservationS (callable_of Try.func30 (by kernel_rfl)) (consOk_nil))
theorem loops_laws_toBook : loopsIn code_laws_toBook = [] := by kernel_rfl
theorem m_laws_toBook : Meets Try.prog 43 c_laws_toBook := meets_of (E := E_laws_toBook) (code := code_laws_toBook) mix lay_ok cons_laws_toBook Try.func43 (by kernel_rfl) sg_laws_toBook (by kernel_rfl) (fun y => (⟨y.1, y.2.1, y.2.2.1⟩ : Bk)) c_laws_toBook.out (fun _ => rfl) c_laws_toBook.run (fun x => by kernel_rfl) (by kernel_rfl) (loops_mem loops_laws_toBook (trivial))

noncomputable def sg_spec_l01In : Sig := ⟨[(false, [.d (.int .i64)]), (false, [.d (.int .i64)]), (false, [.d (.int .i64)])], [], false, [(false, [.d (.bool)])], []⟩
noncomputable def c_spec_l01In : Con := ⟨sg_spec_l01In, Bool, fun x => M_spec_l01In x.1 x.2.1 x.2.2.1, fun r => (r, ())⟩
noncomputable def code_spec_l01In : Code := Try.f174.body.getD .skip
noncomputable def E_spec_l01In : Env := ⟨lay, [], [], []⟩
theorem cons_spec_l01In : ConsOk Try.prog E_spec_l01In.cons := consOk_nil
theorem loops_spec_l01In : loopsIn code_spec_l01In = [] := by kernel_rfl
theorem m_spec_l01In : Meets Try.prog 174 c_spec_l01In := meets_of (E := E_spec_l01In) (code := code_spec_l01In) mix lay_ok cons_spec_l01In Try.func174 (by kernel_rfl) sg_spec_l01In (by kernel_rfl) (fun y => y.1) c_spec_l01In.out (fun _ => rfl) c_spec_l01In.run (fun x => by kernel_rfl) (by kernel_rfl) (loops_mem loops_spec_l01In (trivial))

noncomputable def sg_spec_IsName : Sig := ⟨[(false, [.d (.str)])], [], false, [(false, [.d (.bool)])], []⟩
noncomputable def c_spec_IsName : Con := ⟨sg_spec_IsName, Bool, fun x => M_spec_IsName x.1, fun r => (r, ())⟩
noncomputable def code_spec_IsName : Code := Try.f226.body.getD .skip
noncomputable def body_spec_IsName_0 : Code := (loopsIn code_spec_IsName).getD 0 .skip
noncomputable def D_spec_IsName_0 : LoopD := ⟨⟨mkSlots [(0, false, [.d (.str)]), (3, false, [.d (.int .i64)])] 42 0, []⟩, [], [(.ret, ⟨mkSlots [(2, false, [.d (.bool)])] 42 0, []⟩, []), (.exit 0, ⟨mkSlots [(0, false, [.d (.str)])] 42 0, []⟩, [])]⟩
noncomputable def S_spec_IsName_0_w (x : Tys D_spec_IsName_0.head.ks) : Option (OutT D_spec_IsName_0.outs) := @whileO (ByteArray × Int × Unit) ((Bool × Unit) ⊕ (ByteArray × Unit)) S_spec_IsName_0 x
noncomputable def E_spec_IsName : Env := ⟨lay, [(174, c_spec_l01In)], [(2, mkLM D_spec_IsName_0 S_spec_IsName_0_w)], []⟩
theorem cons_spec_IsName : ConsOk Try.prog E_spec_IsName.cons := consOk_cons m_spec_l01In (callable_of Try.func174 (by kernel_rfl)) (consOk_nil)
theorem S_spec_IsName_0_ok (x : Tys D_spec_IsName_0.head.ks) : stepL E_spec_IsName D_spec_IsName_0 body_spec_IsName_0 x = S_spec_IsName_0 x := by kernel_rfl
theorem loops_spec_IsName_0 : loopsIn body_spec_IsName_0 = [] := by kernel_rfl
theorem l_spec_IsName_0 : LoopOk Try.prog (mkLM D_spec_IsName_0 S_spec_IsName_0_w) body_spec_IsName_0 := loop_ok2 mix lay_ok cons_spec_IsName (by kernel_rfl) (loops_mem loops_spec_IsName_0 (trivial)) S_spec_IsName_0_ok fun _ _ h => h
theorem loops_spec_IsName : loopsIn code_spec_IsName = [body_spec_IsName_0] := by kernel_rfl
theorem m_spec_IsName : Meets Try.prog 226 c_spec_IsName := meets_of (E := E_spec_IsName) (code := code_spec_IsName) mix lay_ok cons_spec_IsName Try.func226 (by kernel_rfl) sg_spec_IsName (by kernel_rfl) (fun y => y.1) c_spec_IsName.out (fun _ => rfl) c_spec_IsName.run (fun x => by kernel_rfl) (by kernel_rfl) (loops_mem loops_spec_IsName (⟨⟨_, by kernel_rfl, l_spec_IsName_0⟩, trivial⟩))

noncomputable def sg_spec_NatOk : Sig := ⟨[(false, [.d (.sl .int)])], [], false, [(false, [.d (.bool)])], []⟩
noncomputable def c_spec_NatOk : Con := ⟨sg_spec_NatOk, Bool, fun x => M_spec_NatOk x.1, fun r => (r, ())⟩
noncomputable def code_spec_NatOk : Code := Try.f150.body.getD .skip
noncomputable def body_spec_NatOk_0 : Code := (loopsIn code_spec_NatOk).getD 0 .skip
noncomputable def D_spec_NatOk_0 : LoopD := ⟨⟨mkSlots [(0, false, [.d (.sl .int)]), (5, false, [.d (.sl .int)]), (6, false, [.d (.int .i64)]), (7, false, [.d (.int .i64)])] 32 0, []⟩, [], [(.ret, ⟨mkSlots [(2, false, [.d (.bool)])] 32 0, []⟩, []), (.exit 0, ⟨mkSlots [(0, false, [.d (.sl .int)])] 32 0, []⟩, [])]⟩
noncomputable def S_spec_NatOk_0_w (x : Tys D_spec_NatOk_0.head.ks) : Option (OutT D_spec_NatOk_0.outs) := @whileO ((List Int) × (List Int) × Int × Int × Unit) ((Bool × Unit) ⊕ ((List Int) × Unit)) S_spec_NatOk_0 x
noncomputable def E_spec_NatOk : Env := ⟨lay, [(174, c_spec_l01In)], [(2, mkLM D_spec_NatOk_0 S_spec_NatOk_0_w)], []⟩
theorem cons_spec_NatOk : ConsOk Try.prog E_spec_NatOk.cons := consOk_cons m_spec_l01In (callable_of Try.func174 (by kernel_rfl)) (consOk_nil)
theorem S_spec_NatOk_0_ok (x : Tys D_spec_NatOk_0.head.ks) : stepL E_spec_NatOk D_spec_NatOk_0 body_spec_NatOk_0 x = S_spec_NatOk_0 x := by kernel_rfl
theorem loops_spec_NatOk_0 : loopsIn body_spec_NatOk_0 = [] := by kernel_rfl
theorem l_spec_NatOk_0 : LoopOk Try.prog (mkLM D_spec_NatOk_0 S_spec_NatOk_0_w) body_spec_NatOk_0 := loop_ok2 mix lay_ok cons_spec_NatOk (by kernel_rfl) (loops_mem loops_spec_NatOk_0 (trivial)) S_spec_NatOk_0_ok fun _ _ h => h
theorem loops_spec_NatOk : loopsIn code_spec_NatOk = [body_spec_NatOk_0] := by kernel_rfl
theorem m_spec_NatOk : Meets Try.prog 150 c_spec_NatOk := meets_of (E := E_spec_NatOk) (code := code_spec_NatOk) mix lay_ok cons_spec_NatOk Try.func150 (by kernel_rfl) sg_spec_NatOk (by kernel_rfl) (fun y => y.1) c_spec_NatOk.out (fun _ => rfl) c_spec_NatOk.run (fun x => by kernel_rfl) (by kernel_rfl) (loops_mem loops_spec_NatOk (⟨⟨_, by kernel_rfl, l_spec_NatOk_0⟩, trivial⟩))

noncomputable def sg_spec_BigIntOk : Sig := ⟨[(true, [.d (.bool), .d (.sl .int)])], [], false, [(false, [.d (.bool)])], []⟩
noncomputable def c_spec_BigIntOk : Con := ⟨sg_spec_BigIntOk, Bool, fun x => M_spec_BigIntOk (⟨x.1, x.2.1⟩ : Bg), fun r => (r, ())⟩
noncomputable def code_spec_BigIntOk : Code := Try.f149.body.getD .skip
noncomputable def E_spec_BigIntOk : Env := ⟨lay, [(150, c_spec_NatOk)], [], []⟩
theorem cons_spec_BigIntOk : ConsOk Try.prog E_spec_BigIntOk.cons := consOk_cons m_spec_NatOk (callable_of Try.func150 (by kernel_rfl)) (consOk_nil)
theorem loops_spec_BigIntOk : loopsIn code_spec_BigIntOk = [] := by kernel_rfl
theorem m_spec_BigIntOk : Meets Try.prog 149 c_spec_BigIntOk := meets_of (E := E_spec_BigIntOk) (code := code_spec_BigIntOk) mix lay_ok cons_spec_BigIntOk Try.func149 (by kernel_rfl) sg_spec_BigIntOk (by kernel_rfl) (fun y => y.1) c_spec_BigIntOk.out (fun _ => rfl) c_spec_BigIntOk.run (fun x => by kernel_rfl) (by kernel_rfl) (loops_mem loops_spec_BigIntOk (trivial))

noncomputable def sg_spec_l02Cmp : Sig := ⟨[(false, [.d (.sl .int)]), (false, [.d (.sl .int)])], [], false, [(false, [.d (.int .i64)])], []⟩
noncomputable def c_spec_l02Cmp : Con := ⟨sg_spec_l02Cmp, Int, fun x => M_spec_l02Cmp x.1 x.2.1, fun r => (r, ())⟩
noncomputable def code_spec_l02Cmp : Code := Try.f223.body.getD .skip
noncomputable def body_spec_l02Cmp_0 : Code := (loopsIn code_spec_l02Cmp).getD 0 .skip
noncomputable def D_spec_l02Cmp_0 : LoopD := ⟨⟨mkSlots [(0, false, [.d (.sl .int)]), (1, false, [.d (.sl .int)]), (5, false, [.d (.int .i64)])] 41 0, []⟩, [], [(.ret, ⟨mkSlots [(4, false, [.d (.int .i64)])] 41 0, []⟩, []), (.exit 0, ⟨mkSlots [] 41 0, []⟩, [])]⟩
noncomputable def S_spec_l02Cmp_0_w (x : Tys D_spec_l02Cmp_0.head.ks) : Option (OutT D_spec_l02Cmp_0.outs) := @whileO ((List Int) × (List Int) × Int × Unit) ((Int × Unit) ⊕ (Unit)) S_spec_l02Cmp_0 x
noncomputable def E_spec_l02Cmp : Env := ⟨lay, [], [(6, mkLM D_spec_l02Cmp_0 S_spec_l02Cmp_0_w)], [(8, [(0, []), (1, []), (2, []), (3, []), (4, []), (5, []), (6, []), (7, []), (8, [])]), (10, [(0, []), (1, []), (2, []), (3, []), (4, []), (5, []), (6, []), (7, []), (8, [])])]⟩
theorem cons_spec_l02Cmp : ConsOk Try.prog E_spec_l02Cmp.cons := consOk_nil
theorem S_spec_l02Cmp_0_ok (x : Tys D_spec_l02Cmp_0.head.ks) : stepL E_spec_l02Cmp D_spec_l02Cmp_0 body_spec_l02Cmp_0 x = S_spec_l02Cmp_0 x := by kernel_rfl
theorem loops_spec_l02Cmp_0 : loopsIn body_spec_l02Cmp_0 = [] := by kernel_rfl
theorem l_spec_l02Cmp_0 : LoopOk Try.prog (mkLM D_spec_l02Cmp_0 S_spec_l02Cmp_0_w) body_spec_l02Cmp_0 := loop_ok2 mix lay_ok cons_spec_l02Cmp (by kernel_rfl) (loops_mem loops_spec_l02Cmp_0 (trivial)) S_spec_l02Cmp_0_ok fun _ _ h => h
theorem loops_spec_l02Cmp : loopsIn code_spec_l02Cmp = [body_spec_l02Cmp_0] := by kernel_rfl
theorem m_spec_l02Cmp : Meets Try.prog 223 c_spec_l02Cmp := meets_of (E := E_spec_l02Cmp) (code := code_spec_l02Cmp) mix lay_ok cons_spec_l02Cmp Try.func223 (by kernel_rfl) sg_spec_l02Cmp (by kernel_rfl) (fun y => y.1) c_spec_l02Cmp.out (fun _ => rfl) c_spec_l02Cmp.run (fun x => by kernel_rfl) (by kernel_rfl) (loops_mem loops_spec_l02Cmp (⟨⟨_, by kernel_rfl, l_spec_l02Cmp_0⟩, trivial⟩))

noncomputable def sg_spec_NatToInt : Sig := ⟨[(false, [.d (.sl .int)])], [], true, [(false, [.d (.int .i64)]), (false, [.d (.bool)])], []⟩
noncomputable def c_spec_NatToInt : Con := ⟨sg_spec_NatToInt, Int × Bool, fun x => M_spec_NatToInt x.1, fun r => (r.1, r.2, ())⟩
noncomputable def code_spec_NatToInt : Code := Try.f215.body.getD .skip
noncomputable def body_spec_NatToInt_0 : Code := (loopsIn code_spec_NatToInt).getD 0 .skip
noncomputable def D_spec_NatToInt_0 : LoopD := ⟨⟨mkSlots [(0, false, [.d (.sl .int)]), (4, false, [.d (.int .i64)]), (5, false, [.d (.int .i64)])] 30 0, []⟩, [], [(.exit 0, ⟨mkSlots [(4, false, [.d (.int .i64)])] 30 0, []⟩, [])]⟩
noncomputable def S_spec_NatToInt_0_w (x : Tys D_spec_NatToInt_0.head.ks) : Option (OutT D_spec_NatToInt_0.outs) := @whileO ((List Int) × Int × Int × Unit) (Int × Unit) S_spec_NatToInt_0 x
noncomputable def E_spec_NatToInt : Env := ⟨lay, [(150, c_spec_NatOk), (223, c_spec_l02Cmp)], [(5, mkLM D_spec_NatToInt_0 S_spec_NatToInt_0_w)], []⟩
theorem cons_spec_NatToInt : ConsOk Try.prog E_spec_NatToInt.cons := consOk_cons m_spec_NatOk (callable_of Try.func150 (by kernel_rfl)) (consOk_cons m_spec_l02Cmp (callable_of Try.func223 (by kernel_rfl)) (consOk_nil))
theorem S_spec_NatToInt_0_ok (x : Tys D_spec_NatToInt_0.head.ks) : stepL E_spec_NatToInt D_spec_NatToInt_0 body_spec_NatToInt_0 x = S_spec_NatToInt_0 x := by kernel_rfl
theorem loops_spec_NatToInt_0 : loopsIn body_spec_NatToInt_0 = [] := by kernel_rfl
theorem l_spec_NatToInt_0 : LoopOk Try.prog (mkLM D_spec_NatToInt_0 S_spec_NatToInt_0_w) body_spec_NatToInt_0 := loop_ok2 mix lay_ok cons_spec_NatToInt (by kernel_rfl) (loops_mem loops_spec_NatToInt_0 (trivial)) S_spec_NatToInt_0_ok fun _ _ h => h
theorem loops_spec_NatToInt : loopsIn code_spec_NatToInt = [body_spec_NatToInt_0] := by kernel_rfl
theorem m_spec_NatToInt : Meets Try.prog 215 c_spec_NatToInt := meets_of (E := E_spec_NatToInt) (code := code_spec_NatToInt) mix lay_ok cons_spec_NatToInt Try.func215 (by kernel_rfl) sg_spec_NatToInt (by kernel_rfl) (fun y => (y.1, y.2.1)) c_spec_NatToInt.out (fun _ => rfl) c_spec_NatToInt.run (fun x => by kernel_rfl) (by kernel_rfl) (loops_mem loops_spec_NatToInt (⟨⟨_, by kernel_rfl, l_spec_NatToInt_0⟩, trivial⟩))

noncomputable def sg_spec_NatOf : Sig := ⟨[(false, [.d (.int .i64)])], [], false, [(false, [.own 0])], [(0, .arr false .int)]⟩
noncomputable def c_spec_NatOf : Con := ⟨sg_spec_NatOf, List Int, fun x => M_spec_NatOf x.1, fun r => (r, ())⟩
noncomputable def code_spec_NatOf : Code := Try.f201.body.getD .skip
noncomputable def body_spec_NatOf_0 : Code := (loopsIn code_spec_NatOf).getD 0 .skip
noncomputable def D_spec_NatOf_0 : LoopD := ⟨⟨mkSlots [(0, false, [.d (.int .i64)]), (3, false, [.own 1024])] 15 0, [(1024, .arr false .int)]⟩, [(.slot 3 0, 1024, .int)], [(.exit 0, ⟨mkSlots [(3, false, [.own 1024])] 15 0, [(1024, .arr false .int)]⟩, [(.slot 3 0, 1024, .int)])]⟩
noncomputable def S_spec_NatOf_0_w (x : Tys D_spec_NatOf_0.head.ks) : Option (OutT D_spec_NatOf_0.outs) := @whileO (Int × (List Int) × Unit) ((List Int) × Unit) S_spec_NatOf_0 x
noncomputable def E_spec_NatOf : Env := ⟨lay, [], [(2, mkLM D_spec_NatOf_0 S_spec_NatOf_0_w)], []⟩
theorem cons_spec_NatOf : ConsOk Try.prog E_spec_NatOf.cons := consOk_nil
theorem S_spec_NatOf_0_ok (x : Tys D_spec_NatOf_0.head.ks) : stepL E_spec_NatOf D_spec_NatOf_0 body_spec_NatOf_0 x = S_spec_NatOf_0 x := by kernel_rfl
theorem loops_spec_NatOf_0 : loopsIn body_spec_NatOf_0 = [] := by kernel_rfl
theorem l_spec_NatOf_0 : LoopOk Try.prog (mkLM D_spec_NatOf_0 S_spec_NatOf_0_w) body_spec_NatOf_0 := loop_ok2 mix lay_ok cons_spec_NatOf (by kernel_rfl) (loops_mem loops_spec_NatOf_0 (trivial)) S_spec_NatOf_0_ok fun _ _ h => h
theorem loops_spec_NatOf : loopsIn code_spec_NatOf = [body_spec_NatOf_0] := by kernel_rfl
theorem m_spec_NatOf : Meets Try.prog 201 c_spec_NatOf := meets_of (E := E_spec_NatOf) (code := code_spec_NatOf) mix lay_ok cons_spec_NatOf Try.func201 (by kernel_rfl) sg_spec_NatOf (by kernel_rfl) (fun y => y.1) c_spec_NatOf.out (fun _ => rfl) c_spec_NatOf.run (fun x => by kernel_rfl) (by kernel_rfl) (loops_mem loops_spec_NatOf (⟨⟨_, by kernel_rfl, l_spec_NatOf_0⟩, trivial⟩))

noncomputable def sg_spec_l02Plain : Sig := ⟨[(false, [.d (.int .i64)]), (false, [.d (.int .i64)])], [], false, [(false, [.own 0])], [(0, .arr false .int)]⟩
noncomputable def c_spec_l02Plain : Con := ⟨sg_spec_l02Plain, List Int, fun x => M_spec_l02Plain x.1 x.2.1, fun r => (r, ())⟩
noncomputable def code_spec_l02Plain : Code := Try.f216.body.getD .skip
noncomputable def body_spec_l02Plain_0 : Code := (loopsIn code_spec_l02Plain).getD 0 .skip
noncomputable def D_spec_l02Plain_0 : LoopD := ⟨⟨mkSlots [(0, false, [.d (.int .i64)]), (1, false, [.d (.int .i64)])] 15 0, []⟩, [], [(.exit 0, ⟨mkSlots [(0, false, [.d (.int .i64)])] 15 0, []⟩, [])]⟩
noncomputable def S_spec_l02Plain_0_w (x : Tys D_spec_l02Plain_0.head.ks) : Option (OutT D_spec_l02Plain_0.outs) := @whileO (Int × Int × Unit) (Int × Unit) S_spec_l02Plain_0 x
noncomputable def E_spec_l02Plain : Env := ⟨lay, [(201, c_spec_NatOf)], [(1, mkLM D_spec_l02Plain_0 S_spec_l02Plain_0_w)], []⟩
theorem cons_spec_l02Plain : ConsOk Try.prog E_spec_l02Plain.cons := consOk_cons m_spec_NatOf (callable_of Try.func201 (by kernel_rfl)) (consOk_nil)
theorem S_spec_l02Plain_0_ok (x : Tys D_spec_l02Plain_0.head.ks) : stepL E_spec_l02Plain D_spec_l02Plain_0 body_spec_l02Plain_0 x = S_spec_l02Plain_0 x := by kernel_rfl
theorem loops_spec_l02Plain_0 : loopsIn body_spec_l02Plain_0 = [] := by kernel_rfl
theorem l_spec_l02Plain_0 : LoopOk Try.prog (mkLM D_spec_l02Plain_0 S_spec_l02Plain_0_w) body_spec_l02Plain_0 := loop_ok2 mix lay_ok cons_spec_l02Plain (by kernel_rfl) (loops_mem loops_spec_l02Plain_0 (trivial)) S_spec_l02Plain_0_ok fun _ _ h => h
theorem loops_spec_l02Plain : loopsIn code_spec_l02Plain = [body_spec_l02Plain_0] := by kernel_rfl
theorem m_spec_l02Plain : Meets Try.prog 216 c_spec_l02Plain := meets_of (E := E_spec_l02Plain) (code := code_spec_l02Plain) mix lay_ok cons_spec_l02Plain Try.func216 (by kernel_rfl) sg_spec_l02Plain (by kernel_rfl) (fun y => y.1) c_spec_l02Plain.out (fun _ => rfl) c_spec_l02Plain.run (fun x => by kernel_rfl) (by kernel_rfl) (loops_mem loops_spec_l02Plain (⟨⟨_, by kernel_rfl, l_spec_l02Plain_0⟩, trivial⟩))

noncomputable def sg_spec_l02Trim_c : Sig := ⟨[(false, [.own 0])], [(0, .arr false .int)], false, [(false, [.own 0])], [(0, .arr false .int)]⟩
noncomputable def c_spec_l02Trim_c : Con := ⟨sg_spec_l02Trim_c, List Int, fun x => M_spec_l02Trim_c x.1, fun r => (r, ())⟩
noncomputable def code_spec_l02Trim_c : Code := Try.f200.body.getD .skip
noncomputable def body_spec_l02Trim_c_0 : Code := (loopsIn code_spec_l02Trim_c).getD 0 .skip
noncomputable def D_spec_l02Trim_c_0 : LoopD := ⟨⟨mkSlots [(0, false, [.own 1408]), (3, false, [.d (.int .i64)])] 21 0, [(1408, .arr false .int)]⟩, [], [(.exit 0, ⟨mkSlots [(0, false, [.own 1408]), (3, false, [.d (.int .i64)])] 21 0, [(1408, .arr false .int)]⟩, [])]⟩
noncomputable def S_spec_l02Trim_c_0_w (x : Tys D_spec_l02Trim_c_0.head.ks) : Option (OutT D_spec_l02Trim_c_0.outs) := @whileO (Int × (List Int) × Unit) (Int × (List Int) × Unit) S_spec_l02Trim_c_0 x
noncomputable def E_spec_l02Trim_c : Env := ⟨lay, [], [(2, mkLM D_spec_l02Trim_c_0 S_spec_l02Trim_c_0_w)], []⟩
theorem cons_spec_l02Trim_c : ConsOk Try.prog E_spec_l02Trim_c.cons := consOk_nil
theorem S_spec_l02Trim_c_0_ok (x : Tys D_spec_l02Trim_c_0.head.ks) : stepL E_spec_l02Trim_c D_spec_l02Trim_c_0 body_spec_l02Trim_c_0 x = S_spec_l02Trim_c_0 x := by kernel_rfl
theorem loops_spec_l02Trim_c_0 : loopsIn body_spec_l02Trim_c_0 = [] := by kernel_rfl
theorem l_spec_l02Trim_c_0 : LoopOk Try.prog (mkLM D_spec_l02Trim_c_0 S_spec_l02Trim_c_0_w) body_spec_l02Trim_c_0 := loop_ok2 mix lay_ok cons_spec_l02Trim_c (by kernel_rfl) (loops_mem loops_spec_l02Trim_c_0 (trivial)) S_spec_l02Trim_c_0_ok fun _ _ h => h
theorem loops_spec_l02Trim_c : loopsIn code_spec_l02Trim_c = [body_spec_l02Trim_c_0] := by kernel_rfl
theorem m_spec_l02Trim_c : Meets Try.prog 200 c_spec_l02Trim_c := meets_of (E := E_spec_l02Trim_c) (code := code_spec_l02Trim_c) mix lay_ok cons_spec_l02Trim_c Try.func200 (by kernel_rfl) sg_spec_l02Trim_c (by kernel_rfl) (fun y => y.1) c_spec_l02Trim_c.out (fun _ => rfl) c_spec_l02Trim_c.run (fun x => by kernel_rfl) (by kernel_rfl) (loops_mem loops_spec_l02Trim_c (⟨⟨_, by kernel_rfl, l_spec_l02Trim_c_0⟩, trivial⟩))

noncomputable def sg_spec_l02Small : Sig := ⟨[(false, [.d (.sl .int)]), (false, [.d (.int .i64)])], [], true, [(false, [.own 0]), (false, [.d (.int .i64)])], [(0, .arr false .int)]⟩
noncomputable def c_spec_l02Small : Con := ⟨sg_spec_l02Small, List Int × Int, fun x => M_spec_l02Small x.1 x.2.1, fun r => (r.2, r.1, ())⟩
noncomputable def code_spec_l02Small : Code := Try.f228.body.getD .skip
noncomputable def body_spec_l02Small_0 : Code := (loopsIn code_spec_l02Small).getD 0 .skip
noncomputable def D_spec_l02Small_0 : LoopD := ⟨⟨mkSlots [(0, false, [.d (.sl .int)]), (1, false, [.d (.int .i64)]), (6, false, [.own 2560]), (7, false, [.d (.int .i64)]), (8, false, [.d (.int .i64)])] 39 0, [(2560, .arr false .int)]⟩, [], [(.exit 0, ⟨mkSlots [(6, false, [.own 2560]), (7, false, [.d (.int .i64)])] 39 0, [(2560, .arr false .int)]⟩, [])]⟩
noncomputable def S_spec_l02Small_0_w (x : Tys D_spec_l02Small_0.head.ks) : Option (OutT D_spec_l02Small_0.outs) := @whileO ((List Int) × Int × Int × Int × (List Int) × Unit) (Int × (List Int) × Unit) S_spec_l02Small_0 x
noncomputable def E_spec_l02Small : Env := ⟨lay, [(200, c_spec_l02Trim_c)], [(4, mkLM D_spec_l02Small_0 S_spec_l02Small_0_w)], []⟩
theorem cons_spec_l02Small : ConsOk Try.prog E_spec_l02Small.cons := consOk_cons m_spec_l02Trim_c (callable_of Try.func200 (by kernel_rfl)) (consOk_nil)
theorem S_spec_l02Small_0_ok (x : Tys D_spec_l02Small_0.head.ks) : stepL E_spec_l02Small D_spec_l02Small_0 body_spec_l02Small_0 x = S_spec_l02Small_0 x := by kernel_rfl
theorem loops_spec_l02Small_0 : loopsIn body_spec_l02Small_0 = [] := by kernel_rfl
theorem l_spec_l02Small_0 : LoopOk Try.prog (mkLM D_spec_l02Small_0 S_spec_l02Small_0_w) body_spec_l02Small_0 := loop_ok2 mix lay_ok cons_spec_l02Small (by kernel_rfl) (loops_mem loops_spec_l02Small_0 (trivial)) S_spec_l02Small_0_ok fun _ _ h => h
theorem loops_spec_l02Small : loopsIn code_spec_l02Small = [body_spec_l02Small_0] := by kernel_rfl
theorem m_spec_l02Small : Meets Try.prog 228 c_spec_l02Small := meets_of (E := E_spec_l02Small) (code := code_spec_l02Small) mix lay_ok cons_spec_l02Small Try.func228 (by kernel_rfl) sg_spec_l02Small (by kernel_rfl) (fun y => (y.2.1, y.1)) c_spec_l02Small.out (fun _ => rfl) c_spec_l02Small.run (fun x => by kernel_rfl) (by kernel_rfl) (loops_mem loops_spec_l02Small (⟨⟨_, by kernel_rfl, l_spec_l02Small_0⟩, trivial⟩))

noncomputable def sg_spec_l02Mul : Sig := ⟨[(false, [.d (.sl .int)]), (false, [.d (.sl .int)])], [], false, [(false, [.own 0])], [(0, .arr false .int)]⟩
noncomputable def c_spec_l02Mul : Con := ⟨sg_spec_l02Mul, List Int, fun x => M_spec_l02Mul x.1 x.2.1, fun r => (r, ())⟩
noncomputable def code_spec_l02Mul : Code := Try.f168.body.getD .skip
noncomputable def body_spec_l02Mul_0 : Code := (loopsIn code_spec_l02Mul).getD 0 .skip
noncomputable def body_spec_l02Mul_1 : Code := (loopsIn body_spec_l02Mul_0).getD 0 .skip
noncomputable def D_spec_l02Mul_0 : LoopD := ⟨⟨mkSlots [(1, false, [.d (.sl .int)]), (5, false, [.own 4672]), (26, false, [.d (.sl .int)]), (27, false, [.d (.int .i64)]), (28, false, [.d (.int .i64)])] 72 0, [(4672, .arr false .int)]⟩, [], [(.exit 0, ⟨mkSlots [(5, false, [.own 4672])] 72 0, [(4672, .arr false .int)]⟩, [])]⟩
noncomputable def D_spec_l02Mul_1 : LoopD := ⟨⟨mkSlots [(1, false, [.d (.sl .int)]), (5, false, [.own 4672]), (6, false, [.d (.int .i64)]), (7, false, [.d (.int .i64)]), (8, false, [.d (.int .i64)]), (26, false, [.d (.sl .int)]), (27, false, [.d (.int .i64)]), (28, false, [.d (.int .i64)]), (33, false, [.d (.sl .int)]), (34, false, [.d (.int .i64)]), (35, false, [.d (.int .i64)])] 72 0, [(4672, .arr false .int)]⟩, [], [(.exit 2, ⟨mkSlots [(1, false, [.d (.sl .int)]), (5, false, [.own 4672]), (6, false, [.d (.int .i64)]), (8, false, [.d (.int .i64)]), (26, false, [.d (.sl .int)]), (27, false, [.d (.int .i64)]), (28, false, [.d (.int .i64)])] 72 0, [(4672, .arr false .int)]⟩, [])]⟩
noncomputable def S_spec_l02Mul_0_w (x : Tys D_spec_l02Mul_0.head.ks) : Option (OutT D_spec_l02Mul_0.outs) := @whileO ((List Int) × (List Int) × Int × Int × (List Int) × Unit) ((List Int) × Unit) S_spec_l02Mul_0 x
noncomputable def S_spec_l02Mul_1_w (x : Tys D_spec_l02Mul_1.head.ks) : Option (OutT D_spec_l02Mul_1.outs) := @whileO ((List Int) × Int × Int × Int × (List Int) × Int × Int × (List Int) × Int × Int × (List Int) × Unit) ((List Int) × Int × Int × (List Int) × Int × Int × (List Int) × Unit) S_spec_l02Mul_1 x
noncomputable def E_spec_l02Mul : Env := ⟨lay, [(200, c_spec_l02Trim_c)], [(5, mkLM D_spec_l02Mul_0 S_spec_l02Mul_0_w), (9, mkLM D_spec_l02Mul_1 S_spec_l02Mul_1_w)], []⟩
theorem cons_spec_l02Mul : ConsOk Try.prog E_spec_l02Mul.cons := consOk_cons m_spec_l02Trim_c (callable_of Try.func200 (by kernel_rfl)) (consOk_nil)
theorem S_spec_l02Mul_1_ok (x : Tys D_spec_l02Mul_1.head.ks) : stepL E_spec_l02Mul D_spec_l02Mul_1 body_spec_l02Mul_1 x = S_spec_l02Mul_1 x := by kernel_rfl
theorem loops_spec_l02Mul_1 : loopsIn body_spec_l02Mul_1 = [] := by kernel_rfl
theorem l_spec_l02Mul_1 : LoopOk Try.prog (mkLM D_spec_l02Mul_1 S_spec_l02Mul_1_w) body_spec_l02Mul_1 := loop_ok2 mix lay_ok cons_spec_l02Mul (by kernel_rfl) (loops_mem loops_spec_l02Mul_1 (trivial)) S_spec_l02Mul_1_ok fun _ _ h => h
theorem S_spec_l02Mul_0_ok (x : Tys D_spec_l02Mul_0.head.ks) : stepL E_spec_l02Mul D_spec_l02Mul_0 body_spec_l02Mul_0 x = S_spec_l02Mul_0 x := by kernel_rfl
theorem loops_spec_l02Mul_0 : loopsIn body_spec_l02Mul_0 = [body_spec_l02Mul_1] := by kernel_rfl
theorem l_spec_l02Mul_0 : LoopOk Try.prog (mkLM D_spec_l02Mul_0 S_spec_l02Mul_0_w) body_spec_l02Mul_0 := loop_ok2 mix lay_ok cons_spec_l02Mul (by kernel_rfl) (loops_mem loops_spec_l02Mul_0 (⟨⟨_, by kernel_rfl, l_spec_l02Mul_1⟩, trivial⟩)) S_spec_l02Mul_0_ok fun _ _ h => h
theorem loops_spec_l02Mul : loopsIn code_spec_l02Mul = [body_spec_l02Mul_0] := by kernel_rfl
theorem m_spec_l02Mul : Meets Try.prog 168 c_spec_l02Mul := meets_of (E := E_spec_l02Mul) (code := code_spec_l02Mul) mix lay_ok cons_spec_l02Mul Try.func168 (by kernel_rfl) sg_spec_l02Mul (by kernel_rfl) (fun y => y.1) c_spec_l02Mul.out (fun _ => rfl) c_spec_l02Mul.run (fun x => by kernel_rfl) (by kernel_rfl) (loops_mem loops_spec_l02Mul (⟨⟨_, by kernel_rfl, l_spec_l02Mul_0⟩, trivial⟩))

noncomputable def sg_spec_l02Digit : Sig := ⟨[(false, [.d (.sl .int)]), (false, [.d (.sl .int)])], [], false, [(false, [.d (.int .i64)])], []⟩
noncomputable def c_spec_l02Digit : Con := ⟨sg_spec_l02Digit, Int, fun x => M_spec_l02Digit x.1 x.2.1, fun r => (r, ())⟩
noncomputable def code_spec_l02Digit : Code := Try.f229.body.getD .skip
noncomputable def body_spec_l02Digit_0 : Code := (loopsIn code_spec_l02Digit).getD 0 .skip
noncomputable def D_spec_l02Digit_0 : LoopD := ⟨⟨mkSlots [(0, false, [.d (.sl .int)]), (1, false, [.d (.sl .int)]), (5, false, [.d (.int .i64)]), (6, false, [.d (.int .i64)])] 27 0, []⟩, [], [(.exit 0, ⟨mkSlots [(5, false, [.d (.int .i64)])] 27 0, []⟩, [])]⟩
noncomputable def S_spec_l02Digit_0_w (x : Tys D_spec_l02Digit_0.head.ks) : Option (OutT D_spec_l02Digit_0.outs) := @whileO ((List Int) × (List Int) × Int × Int × Unit) (Int × Unit) S_spec_l02Digit_0 x
noncomputable def E_spec_l02Digit : Env := ⟨lay, [(201, c_spec_NatOf), (168, c_spec_l02Mul), (223, c_spec_l02Cmp)], [(3, mkLM D_spec_l02Digit_0 S_spec_l02Digit_0_w)], []⟩
theorem cons_spec_l02Digit : ConsOk Try.prog E_spec_l02Digit.cons := consOk_cons m_spec_NatOf (callable_of Try.func201 (by kernel_rfl)) (consOk_cons m_spec_l02Mul (callable_of Try.func168 (by kernel_rfl)) (consOk_cons m_spec_l02Cmp (callable_of Try.func223 (by kernel_rfl)) (consOk_nil)))
theorem S_spec_l02Digit_0_ok (x : Tys D_spec_l02Digit_0.head.ks) : stepL E_spec_l02Digit D_spec_l02Digit_0 body_spec_l02Digit_0 x = S_spec_l02Digit_0 x := by kernel_rfl
theorem loops_spec_l02Digit_0 : loopsIn body_spec_l02Digit_0 = [] := by kernel_rfl
theorem l_spec_l02Digit_0 : LoopOk Try.prog (mkLM D_spec_l02Digit_0 S_spec_l02Digit_0_w) body_spec_l02Digit_0 := loop_ok2 mix lay_ok cons_spec_l02Digit (by kernel_rfl) (loops_mem loops_spec_l02Digit_0 (trivial)) S_spec_l02Digit_0_ok fun _ _ h => h
theorem loops_spec_l02Digit : loopsIn code_spec_l02Digit = [body_spec_l02Digit_0] := by kernel_rfl
theorem m_spec_l02Digit : Meets Try.prog 229 c_spec_l02Digit := meets_of (E := E_spec_l02Digit) (code := code_spec_l02Digit) mix lay_ok cons_spec_l02Digit Try.func229 (by kernel_rfl) sg_spec_l02Digit (by kernel_rfl) (fun y => y.1) c_spec_l02Digit.out (fun _ => rfl) c_spec_l02Digit.run (fun x => by kernel_rfl) (by kernel_rfl) (loops_mem loops_spec_l02Digit (⟨⟨_, by kernel_rfl, l_spec_l02Digit_0⟩, trivial⟩))

noncomputable def sg_spec_l02Sub : Sig := ⟨[(false, [.d (.sl .int)]), (false, [.d (.sl .int)])], [], false, [(false, [.own 0])], [(0, .arr false .int)]⟩
noncomputable def c_spec_l02Sub : Con := ⟨sg_spec_l02Sub, List Int, fun x => M_spec_l02Sub x.1 x.2.1, fun r => (r, ())⟩
noncomputable def code_spec_l02Sub : Code := Try.f224.body.getD .skip
noncomputable def body_spec_l02Sub_0 : Code := (loopsIn code_spec_l02Sub).getD 0 .skip
noncomputable def D_spec_l02Sub_0 : LoopD := ⟨⟨mkSlots [(0, false, [.d (.sl .int)]), (1, false, [.d (.sl .int)]), (5, false, [.own 2752]), (6, false, [.d (.int .i64)]), (11, false, [.d (.int .i64)]), (12, false, [.d (.int .i64)])] 42 0, [(2752, .arr false .int)]⟩, [(.slot 5 0, 2752, .int)], [(.exit 0, ⟨mkSlots [(5, false, [.own 2752])] 42 0, [(2752, .arr false .int)]⟩, [(.slot 5 0, 2752, .int)])]⟩
noncomputable def S_spec_l02Sub_0_w (x : Tys D_spec_l02Sub_0.head.ks) : Option (OutT D_spec_l02Sub_0.outs) := @whileO ((List Int) × (List Int) × Int × Int × Int × (List Int) × Unit) ((List Int) × Unit) S_spec_l02Sub_0 x
noncomputable def E_spec_l02Sub : Env := ⟨lay, [(200, c_spec_l02Trim_c)], [(4, mkLM D_spec_l02Sub_0 S_spec_l02Sub_0_w)], []⟩
theorem cons_spec_l02Sub : ConsOk Try.prog E_spec_l02Sub.cons := consOk_cons m_spec_l02Trim_c (callable_of Try.func200 (by kernel_rfl)) (consOk_nil)
theorem S_spec_l02Sub_0_ok (x : Tys D_spec_l02Sub_0.head.ks) : stepL E_spec_l02Sub D_spec_l02Sub_0 body_spec_l02Sub_0 x = S_spec_l02Sub_0 x := by kernel_rfl
theorem loops_spec_l02Sub_0 : loopsIn body_spec_l02Sub_0 = [] := by kernel_rfl
theorem l_spec_l02Sub_0 : LoopOk Try.prog (mkLM D_spec_l02Sub_0 S_spec_l02Sub_0_w) body_spec_l02Sub_0 := loop_ok2 mix lay_ok cons_spec_l02Sub (by kernel_rfl) (loops_mem loops_spec_l02Sub_0 (trivial)) S_spec_l02Sub_0_ok fun _ _ h => h
theorem loops_spec_l02Sub : loopsIn code_spec_l02Sub = [body_spec_l02Sub_0] := by kernel_rfl
theorem m_spec_l02Sub : Meets Try.prog 224 c_spec_l02Sub := meets_of (E := E_spec_l02Sub) (code := code_spec_l02Sub) mix lay_ok cons_spec_l02Sub Try.func224 (by kernel_rfl) sg_spec_l02Sub (by kernel_rfl) (fun y => y.1) c_spec_l02Sub.out (fun _ => rfl) c_spec_l02Sub.run (fun x => by kernel_rfl) (by kernel_rfl) (loops_mem loops_spec_l02Sub (⟨⟨_, by kernel_rfl, l_spec_l02Sub_0⟩, trivial⟩))

noncomputable def sg_spec_l02Div : Sig := ⟨[(false, [.d (.sl .int)]), (false, [.d (.sl .int)])], [], true, [(false, [.own 0]), (false, [.own 1])], [(0, .arr false .int), (1, .arr false .int)]⟩
noncomputable def c_spec_l02Div : Con := ⟨sg_spec_l02Div, List Int × List Int, fun x => M_spec_l02Div x.1 x.2.1, fun r => (r.1, r.2, ())⟩
noncomputable def code_spec_l02Div : Code := Try.f198.body.getD .skip
noncomputable def body_spec_l02Div_0 : Code := (loopsIn code_spec_l02Div).getD 0 .skip
noncomputable def D_spec_l02Div_0 : LoopD := ⟨⟨mkSlots [(0, false, [.d (.sl .int)]), (1, false, [.d (.sl .int)]), (8, false, [.own 4224]), (9, false, [.own 4288]), (10, false, [.d (.int .i64)])] 65 0, [(4224, .arr false .int), (4288, .arr false .int)]⟩, [(.slot 9 0, 4288, .int)], [(.exit 0, ⟨mkSlots [(8, false, [.own 4224]), (9, false, [.own 4288])] 65 0, [(4224, .arr false .int), (4288, .arr false .int)]⟩, [(.slot 9 0, 4288, .int)])]⟩
noncomputable def S_spec_l02Div_0_w (x : Tys D_spec_l02Div_0.head.ks) : Option (OutT D_spec_l02Div_0.outs) := @whileO ((List Int) × (List Int) × Int × (List Int) × (List Int) × Unit) ((List Int) × (List Int) × Unit) S_spec_l02Div_0 x
noncomputable def E_spec_l02Div : Env := ⟨lay, [(228, c_spec_l02Small), (201, c_spec_NatOf), (200, c_spec_l02Trim_c), (223, c_spec_l02Cmp), (229, c_spec_l02Digit), (168, c_spec_l02Mul), (224, c_spec_l02Sub)], [(7, mkLM D_spec_l02Div_0 S_spec_l02Div_0_w)], []⟩
theorem cons_spec_l02Div : ConsOk Try.prog E_spec_l02Div.cons := consOk_cons m_spec_l02Small (callable_of Try.func228 (by kernel_rfl)) (consOk_cons m_spec_NatOf (callable_of Try.func201 (by kernel_rfl)) (consOk_cons m_spec_l02Trim_c (callable_of Try.func200 (by kernel_rfl)) (consOk_cons m_spec_l02Cmp (callable_of Try.func223 (by kernel_rfl)) (consOk_cons m_spec_l02Digit (callable_of Try.func229 (by kernel_rfl)) (consOk_cons m_spec_l02Mul (callable_of Try.func168 (by kernel_rfl)) (consOk_cons m_spec_l02Sub (callable_of Try.func224 (by kernel_rfl)) (consOk_nil)))))))
theorem S_spec_l02Div_0_ok (x : Tys D_spec_l02Div_0.head.ks) : stepL E_spec_l02Div D_spec_l02Div_0 body_spec_l02Div_0 x = S_spec_l02Div_0 x := by kernel_rfl
theorem loops_spec_l02Div_0 : loopsIn body_spec_l02Div_0 = [] := by kernel_rfl
theorem l_spec_l02Div_0 : LoopOk Try.prog (mkLM D_spec_l02Div_0 S_spec_l02Div_0_w) body_spec_l02Div_0 := loop_ok2 mix lay_ok cons_spec_l02Div (by kernel_rfl) (loops_mem loops_spec_l02Div_0 (trivial)) S_spec_l02Div_0_ok fun _ _ h => h
theorem loops_spec_l02Div : loopsIn code_spec_l02Div = [body_spec_l02Div_0] := by kernel_rfl
theorem m_spec_l02Div : Meets Try.prog 198 c_spec_l02Div := meets_of (E := E_spec_l02Div) (code := code_spec_l02Div) mix lay_ok cons_spec_l02Div Try.func198 (by kernel_rfl) sg_spec_l02Div (by kernel_rfl) (fun y => (y.1, y.2.1)) c_spec_l02Div.out (fun _ => rfl) c_spec_l02Div.run (fun x => by kernel_rfl) (by kernel_rfl) (loops_mem loops_spec_l02Div (⟨⟨_, by kernel_rfl, l_spec_l02Div_0⟩, trivial⟩))

noncomputable def sg_spec_l02Gcd : Sig := ⟨[(false, [.d (.sl .int)]), (false, [.d (.sl .int)])], [], false, [(false, [.own 0])], [(0, .arr false .int)]⟩
noncomputable def c_spec_l02Gcd : Con := ⟨sg_spec_l02Gcd, List Int, fun x => M_spec_l02Gcd x.1 x.2.1, fun r => (r, ())⟩
noncomputable def code_spec_l02Gcd : Code := Try.f152.body.getD .skip
noncomputable def body_spec_l02Gcd_0 : Code := (loopsIn code_spec_l02Gcd).getD 0 .skip
noncomputable def D_spec_l02Gcd_0 : LoopD := ⟨⟨mkSlots [(5, false, [.own 3392]), (6, false, [.own 3456])] 52 0, [(3392, .arr false .int), (3456, .arr false .int)]⟩, [], [(.ret, ⟨mkSlots [(4, false, [.own 3520])] 52 0, [(3520, .arr false .int)]⟩, []), (.exit 0, ⟨mkSlots [(5, false, [.own 3392])] 52 0, [(3392, .arr false .int)]⟩, [])]⟩
noncomputable def S_spec_l02Gcd_0_w (x : Tys D_spec_l02Gcd_0.head.ks) : Option (OutT D_spec_l02Gcd_0.outs) := @whileO ((List Int) × (List Int) × Unit) (((List Int) × Unit) ⊕ ((List Int) × Unit)) S_spec_l02Gcd_0 x
noncomputable def E_spec_l02Gcd : Env := ⟨lay, [(215, c_spec_NatToInt), (216, c_spec_l02Plain), (198, c_spec_l02Div)], [(3, mkLM D_spec_l02Gcd_0 S_spec_l02Gcd_0_w)], []⟩
theorem cons_spec_l02Gcd : ConsOk Try.prog E_spec_l02Gcd.cons := consOk_cons m_spec_NatToInt (callable_of Try.func215 (by kernel_rfl)) (consOk_cons m_spec_l02Plain (callable_of Try.func216 (by kernel_rfl)) (consOk_cons m_spec_l02Div (callable_of Try.func198 (by kernel_rfl)) (consOk_nil)))
theorem S_spec_l02Gcd_0_ok (x : Tys D_spec_l02Gcd_0.head.ks) : stepL E_spec_l02Gcd D_spec_l02Gcd_0 body_spec_l02Gcd_0 x = S_spec_l02Gcd_0 x := by kernel_rfl
theorem loops_spec_l02Gcd_0 : loopsIn body_spec_l02Gcd_0 = [] := by kernel_rfl
theorem l_spec_l02Gcd_0 : LoopOk Try.prog (mkLM D_spec_l02Gcd_0 S_spec_l02Gcd_0_w) body_spec_l02Gcd_0 := loop_ok2 mix lay_ok cons_spec_l02Gcd (by kernel_rfl) (loops_mem loops_spec_l02Gcd_0 (trivial)) S_spec_l02Gcd_0_ok fun _ _ h => h
theorem loops_spec_l02Gcd : loopsIn code_spec_l02Gcd = [body_spec_l02Gcd_0] := by kernel_rfl
theorem m_spec_l02Gcd : Meets Try.prog 152 c_spec_l02Gcd := meets_of (E := E_spec_l02Gcd) (code := code_spec_l02Gcd) mix lay_ok cons_spec_l02Gcd Try.func152 (by kernel_rfl) sg_spec_l02Gcd (by kernel_rfl) (fun y => y.1) c_spec_l02Gcd.out (fun _ => rfl) c_spec_l02Gcd.run (fun x => by kernel_rfl) (by kernel_rfl) (loops_mem loops_spec_l02Gcd (⟨⟨_, by kernel_rfl, l_spec_l02Gcd_0⟩, trivial⟩))

noncomputable def sg_spec_l04One : Sig := ⟨[(false, [.d (.sl .int)])], [], false, [(false, [.d (.bool)])], []⟩
noncomputable def c_spec_l04One : Con := ⟨sg_spec_l04One, Bool, fun x => M_spec_l04One x.1, fun r => (r, ())⟩
noncomputable def code_spec_l04One : Code := Try.f151.body.getD .skip
noncomputable def E_spec_l04One : Env := ⟨lay, [], [], []⟩
theorem cons_spec_l04One : ConsOk Try.prog E_spec_l04One.cons := consOk_nil
theorem loops_spec_l04One : loopsIn code_spec_l04One = [] := by kernel_rfl
theorem m_spec_l04One : Meets Try.prog 151 c_spec_l04One := meets_of (E := E_spec_l04One) (code := code_spec_l04One) mix lay_ok cons_spec_l04One Try.func151 (by kernel_rfl) sg_spec_l04One (by kernel_rfl) (fun y => y.1) c_spec_l04One.out (fun _ => rfl) c_spec_l04One.run (fun x => by kernel_rfl) (by kernel_rfl) (loops_mem loops_spec_l04One (trivial))

noncomputable def sg_spec_RatOk : Sig := ⟨[(true, [.d (.bool), .d (.sl .int), .d (.sl .int)])], [], false, [(false, [.d (.bool)])], []⟩
noncomputable def c_spec_RatOk : Con := ⟨sg_spec_RatOk, Bool, fun x => M_spec_RatOk (⟨x.1, x.2.1, x.2.2.1⟩ : Rt), fun r => (r, ())⟩
noncomputable def code_spec_RatOk : Code := Try.f78.body.getD .skip
noncomputable def E_spec_RatOk : Env := ⟨lay, [(149, c_spec_BigIntOk), (150, c_spec_NatOk), (152, c_spec_l02Gcd), (151, c_spec_l04One)], [], []⟩
theorem cons_spec_RatOk : ConsOk Try.prog E_spec_RatOk.cons := consOk_cons m_spec_BigIntOk (callable_of Try.func149 (by kernel_rfl)) (consOk_cons m_spec_NatOk (callable_of Try.func150 (by kernel_rfl)) (consOk_cons m_spec_l02Gcd (callable_of Try.func152 (by kernel_rfl)) (consOk_cons m_spec_l04One (callable_of Try.func151 (by kernel_rfl)) (consOk_nil))))
theorem loops_spec_RatOk : loopsIn code_spec_RatOk = [] := by kernel_rfl
theorem m_spec_RatOk : Meets Try.prog 78 c_spec_RatOk := meets_of (E := E_spec_RatOk) (code := code_spec_RatOk) mix lay_ok cons_spec_RatOk Try.func78 (by kernel_rfl) sg_spec_RatOk (by kernel_rfl) (fun y => y.1) c_spec_RatOk.out (fun _ => rfl) c_spec_RatOk.run (fun x => by kernel_rfl) (by kernel_rfl) (loops_mem loops_spec_RatOk (trivial))

noncomputable def sg_spec_l05Nil : Sig := ⟨[(true, [.d (.bool), .d (.sl .int), .d (.sl .int)])], [], false, [(false, [.d (.bool)])], []⟩
noncomputable def c_spec_l05Nil : Con := ⟨sg_spec_l05Nil, Bool, fun x => M_spec_l05Nil (⟨x.1, x.2.1, x.2.2.1⟩ : Rt), fun r => (r, ())⟩
noncomputable def code_spec_l05Nil : Code := Try.f138.body.getD .skip
noncomputable def E_spec_l05Nil : Env := ⟨lay, [], [], []⟩
theorem cons_spec_l05Nil : ConsOk Try.prog E_spec_l05Nil.cons := consOk_nil
theorem loops_spec_l05Nil : loopsIn code_spec_l05Nil = [] := by kernel_rfl
theorem m_spec_l05Nil : Meets Try.prog 138 c_spec_l05Nil := meets_of (E := E_spec_l05Nil) (code := code_spec_l05Nil) mix lay_ok cons_spec_l05Nil Try.func138 (by kernel_rfl) sg_spec_l05Nil (by kernel_rfl) (fun y => y.1) c_spec_l05Nil.out (fun _ => rfl) c_spec_l05Nil.run (fun x => by kernel_rfl) (by kernel_rfl) (loops_mem loops_spec_l05Nil (trivial))

noncomputable def sg_spec_StationOk : Sig := ⟨[(true, [.d (.str), .d (.bool), .d (.sl .int), .d (.sl .int), .d (.bool), .d (.sl .int), .d (.sl .int), .d (.bool)]), (false, [.d (.bool)])], [], false, [(false, [.d (.bool)])], []⟩
noncomputable def c_spec_StationOk : Con := ⟨sg_spec_StationOk, Bool, fun x => M_spec_StationOk (⟨x.1, (⟨x.2.1, x.2.2.1, x.2.2.2.1⟩ : Rt), (⟨x.2.2.2.2.1, x.2.2.2.2.2.1, x.2.2.2.2.2.2.1⟩ : Rt), x.2.2.2.2.2.2.2.1⟩ : Sta) x.2.2.2.2.2.2.2.2.1, fun r => (r, ())⟩
noncomputable def code_spec_StationOk : Code := Try.f171.body.getD .skip
noncomputable def E_spec_StationOk : Env := ⟨lay, [(226, c_spec_IsName), (78, c_spec_RatOk), (138, c_spec_l05Nil)], [], []⟩
theorem cons_spec_StationOk : ConsOk Try.prog E_spec_StationOk.cons := consOk_cons m_spec_IsName (callable_of Try.func226 (by kernel_rfl)) (consOk_cons m_spec_RatOk (callable_of Try.func78 (by kernel_rfl)) (consOk_cons m_spec_l05Nil (callable_of Try.func138 (by kernel_rfl)) (consOk_nil)))
theorem loops_spec_StationOk : loopsIn code_spec_StationOk = [] := by kernel_rfl
theorem m_spec_StationOk : Meets Try.prog 171 c_spec_StationOk := meets_of (E := E_spec_StationOk) (code := code_spec_StationOk) mix lay_ok cons_spec_StationOk Try.func171 (by kernel_rfl) sg_spec_StationOk (by kernel_rfl) (fun y => y.1) c_spec_StationOk.out (fun _ => rfl) c_spec_StationOk.run (fun x => by kernel_rfl) (by kernel_rfl) (loops_mem loops_spec_StationOk (trivial))

noncomputable def sg_spec_FindStation : Sig := ⟨[(true, [.d (.bool), .d (.sl .sta)]), (false, [.d (.str)])], [], false, [(false, [.d (.int .i64)])], []⟩
noncomputable def c_spec_FindStation : Con := ⟨sg_spec_FindStation, Int, fun x => M_spec_FindStation (⟨x.1, x.2.1⟩ : Net) x.2.2.1, fun r => (r, ())⟩
noncomputable def code_spec_FindStation : Code := Try.f172.body.getD .skip
noncomputable def body_spec_FindStation_0 : Code := (loopsIn code_spec_FindStation).getD 0 .skip
noncomputable def D_spec_FindStation_0 : LoopD := ⟨⟨mkSlots [(1, false, [.d (.str)]), (8, false, [.d (.sl .sta)]), (9, false, [.d (.int .i64)]), (10, false, [.d (.int .i64)])] 21 0, []⟩, [], [(.ret, ⟨mkSlots [(4, false, [.d (.int .i64)])] 21 0, []⟩, []), (.exit 0, ⟨mkSlots [] 21 0, []⟩, [])]⟩
noncomputable def S_spec_FindStation_0_w (x : Tys D_spec_FindStation_0.head.ks) : Option (OutT D_spec_FindStation_0.outs) := @whileO (ByteArray × (List Sta) × Int × Int × Unit) ((Int × Unit) ⊕ (Unit)) S_spec_FindStation_0 x
noncomputable def E_spec_FindStation : Env := ⟨lay, [], [(2, mkLM D_spec_FindStation_0 S_spec_FindStation_0_w)], []⟩
theorem cons_spec_FindStation : ConsOk Try.prog E_spec_FindStation.cons := consOk_nil
theorem S_spec_FindStation_0_ok (x : Tys D_spec_FindStation_0.head.ks) : stepL E_spec_FindStation D_spec_FindStation_0 body_spec_FindStation_0 x = S_spec_FindStation_0 x := by kernel_rfl
theorem loops_spec_FindStation_0 : loopsIn body_spec_FindStation_0 = [] := by kernel_rfl
theorem l_spec_FindStation_0 : LoopOk Try.prog (mkLM D_spec_FindStation_0 S_spec_FindStation_0_w) body_spec_FindStation_0 := loop_ok2 mix lay_ok cons_spec_FindStation (by kernel_rfl) (loops_mem loops_spec_FindStation_0 (trivial)) S_spec_FindStation_0_ok fun _ _ h => h
theorem loops_spec_FindStation : loopsIn code_spec_FindStation = [body_spec_FindStation_0] := by kernel_rfl
theorem m_spec_FindStation : Meets Try.prog 172 c_spec_FindStation := meets_of (E := E_spec_FindStation) (code := code_spec_FindStation) mix lay_ok cons_spec_FindStation Try.func172 (by kernel_rfl) sg_spec_FindStation (by kernel_rfl) (fun y => y.1) c_spec_FindStation.out (fun _ => rfl) c_spec_FindStation.run (fun x => by kernel_rfl) (by kernel_rfl) (loops_mem loops_spec_FindStation (⟨⟨_, by kernel_rfl, l_spec_FindStation_0⟩, trivial⟩))

noncomputable def sg_spec_NetworkOk : Sig := ⟨[(true, [.d (.bool), .d (.sl .sta)])], [], false, [(false, [.d (.bool)])], []⟩
noncomputable def c_spec_NetworkOk : Con := ⟨sg_spec_NetworkOk, Bool, fun x => M_spec_NetworkOk (⟨x.1, x.2.1⟩ : Net), fun r => (r, ())⟩
noncomputable def code_spec_NetworkOk : Code := Try.f101.body.getD .skip
noncomputable def body_spec_NetworkOk_0 : Code := (loopsIn code_spec_NetworkOk).getD 0 .skip
noncomputable def D_spec_NetworkOk_0 : LoopD := ⟨⟨mkSlots [(1, false, [.lp 64 0]), (10, false, [.d (.sl .sta)]), (11, false, [.d (.int .i64)]), (12, false, [.d (.int .i64)])] 31 0, [(64, .box [.d (.bool), .d (.sl .sta)])]⟩, [], [(.ret, ⟨mkSlots [(2, false, [.d (.bool)])] 31 0, []⟩, []), (.exit 0, ⟨mkSlots [] 31 0, []⟩, [])]⟩
noncomputable def S_spec_NetworkOk_0_w (x : Tys D_spec_NetworkOk_0.head.ks) : Option (OutT D_spec_NetworkOk_0.outs) := @whileO ((List Sta) × Int × Int × Bool × (List Sta) × Unit) ((Bool × Unit) ⊕ (Unit)) S_spec_NetworkOk_0 x
noncomputable def E_spec_NetworkOk : Env := ⟨lay, [(171, c_spec_StationOk), (172, c_spec_FindStation)], [(4, mkLM D_spec_NetworkOk_0 S_spec_NetworkOk_0_w)], []⟩
theorem cons_spec_NetworkOk : ConsOk Try.prog E_spec_NetworkOk.cons := consOk_cons m_spec_StationOk (callable_of Try.func171 (by kernel_rfl)) (consOk_cons m_spec_FindStation (callable_of Try.func172 (by kernel_rfl)) (consOk_nil))
theorem S_spec_NetworkOk_0_ok (x : Tys D_spec_NetworkOk_0.head.ks) : stepL E_spec_NetworkOk D_spec_NetworkOk_0 body_spec_NetworkOk_0 x = S_spec_NetworkOk_0 x := by kernel_rfl
theorem loops_spec_NetworkOk_0 : loopsIn body_spec_NetworkOk_0 = [] := by kernel_rfl
theorem l_spec_NetworkOk_0 : LoopOk Try.prog (mkLM D_spec_NetworkOk_0 S_spec_NetworkOk_0_w) body_spec_NetworkOk_0 := loop_ok2 mix lay_ok cons_spec_NetworkOk (by kernel_rfl) (loops_mem loops_spec_NetworkOk_0 (trivial)) S_spec_NetworkOk_0_ok fun _ _ h => h
theorem loops_spec_NetworkOk : loopsIn code_spec_NetworkOk = [body_spec_NetworkOk_0] := by kernel_rfl
theorem m_spec_NetworkOk : Meets Try.prog 101 c_spec_NetworkOk := meets_of (E := E_spec_NetworkOk) (code := code_spec_NetworkOk) mix lay_ok cons_spec_NetworkOk Try.func101 (by kernel_rfl) sg_spec_NetworkOk (by kernel_rfl) (fun y => y.1) c_spec_NetworkOk.out (fun _ => rfl) c_spec_NetworkOk.run (fun x => by kernel_rfl) (by kernel_rfl) (loops_mem loops_spec_NetworkOk (⟨⟨_, by kernel_rfl, l_spec_NetworkOk_0⟩, trivial⟩))

noncomputable def sg_spec_l11Fits : Sig := ⟨[(false, [.d (.int .i64)]), (false, [.d (.bool)])], [], false, [(false, [.d (.bool)])], []⟩
noncomputable def c_spec_l11Fits : Con := ⟨sg_spec_l11Fits, Bool, fun x => M_spec_l11Fits x.1 x.2.1, fun r => (r, ())⟩
noncomputable def code_spec_l11Fits : Code := Try.f173.body.getD .skip
noncomputable def E_spec_l11Fits : Env := ⟨lay, [(174, c_spec_l01In)], [], []⟩
theorem cons_spec_l11Fits : ConsOk Try.prog E_spec_l11Fits.cons := consOk_cons m_spec_l01In (callable_of Try.func174 (by kernel_rfl)) (consOk_nil)
theorem loops_spec_l11Fits : loopsIn code_spec_l11Fits = [] := by kernel_rfl
theorem m_spec_l11Fits : Meets Try.prog 173 c_spec_l11Fits := meets_of (E := E_spec_l11Fits) (code := code_spec_l11Fits) mix lay_ok cons_spec_l11Fits Try.func173 (by kernel_rfl) sg_spec_l11Fits (by kernel_rfl) (fun y => y.1) c_spec_l11Fits.out (fun _ => rfl) c_spec_l11Fits.run (fun x => by kernel_rfl) (by kernel_rfl) (loops_mem loops_spec_l11Fits (trivial))

noncomputable def sg_spec_IsBetween : Sig := ⟨[(false, [.d (.int .i64)])], [], false, [(false, [.d (.bool)])], []⟩
noncomputable def c_spec_IsBetween : Con := ⟨sg_spec_IsBetween, Bool, fun x => M_spec_IsBetween x.1, fun r => (r, ())⟩
noncomputable def code_spec_IsBetween : Code := Try.f175.body.getD .skip
noncomputable def E_spec_IsBetween : Env := ⟨lay, [(174, c_spec_l01In)], [], []⟩
theorem cons_spec_IsBetween : ConsOk Try.prog E_spec_IsBetween.cons := consOk_cons m_spec_l01In (callable_of Try.func174 (by kernel_rfl)) (consOk_nil)
theorem loops_spec_IsBetween : loopsIn code_spec_IsBetween = [] := by kernel_rfl
theorem m_spec_IsBetween : Meets Try.prog 175 c_spec_IsBetween := meets_of (E := E_spec_IsBetween) (code := code_spec_IsBetween) mix lay_ok cons_spec_IsBetween Try.func175 (by kernel_rfl) sg_spec_IsBetween (by kernel_rfl) (fun y => y.1) c_spec_IsBetween.out (fun _ => rfl) c_spec_IsBetween.run (fun x => by kernel_rfl) (by kernel_rfl) (loops_mem loops_spec_IsBetween (trivial))

noncomputable def sg_spec_RatSign : Sig := ⟨[(true, [.d (.bool), .d (.sl .int), .d (.sl .int)])], [], false, [(false, [.d (.int .i64)])], []⟩
noncomputable def c_spec_RatSign : Con := ⟨sg_spec_RatSign, Int, fun x => M_spec_RatSign (⟨x.1, x.2.1, x.2.2.1⟩ : Rt), fun r => (r, ())⟩
noncomputable def code_spec_RatSign : Code := Try.f176.body.getD .skip
noncomputable def E_spec_RatSign : Env := ⟨lay, [(78, c_spec_RatOk)], [], []⟩
theorem cons_spec_RatSign : ConsOk Try.prog E_spec_RatSign.cons := consOk_cons m_spec_RatOk (callable_of Try.func78 (by kernel_rfl)) (consOk_nil)
theorem loops_spec_RatSign : loopsIn code_spec_RatSign = [] := by kernel_rfl
theorem m_spec_RatSign : Meets Try.prog 176 c_spec_RatSign := meets_of (E := E_spec_RatSign) (code := code_spec_RatSign) mix lay_ok cons_spec_RatSign Try.func176 (by kernel_rfl) sg_spec_RatSign (by kernel_rfl) (fun y => y.1) c_spec_RatSign.out (fun _ => rfl) c_spec_RatSign.run (fun x => by kernel_rfl) (by kernel_rfl) (loops_mem loops_spec_RatSign (trivial))

noncomputable def sg_spec_l11Ok : Sig := ⟨[(true, [.d (.bool), .d (.sl .sta)]), (true, [.d (.int .i64), .d (.int .i64), .d (.int .i64), .d (.bool), .d (.sl .int), .d (.sl .int), .d (.bool), .d (.sl .int), .d (.sl .int)])], [], false, [(false, [.d (.bool)])], []⟩
noncomputable def c_spec_l11Ok : Con := ⟨sg_spec_l11Ok, Bool, fun x => M_spec_l11Ok (⟨x.1, x.2.1⟩ : Net) (⟨x.2.2.1, x.2.2.2.1, x.2.2.2.2.1, (⟨x.2.2.2.2.2.1, x.2.2.2.2.2.2.1, x.2.2.2.2.2.2.2.1⟩ : Rt), (⟨x.2.2.2.2.2.2.2.2.1, x.2.2.2.2.2.2.2.2.2.1, x.2.2.2.2.2.2.2.2.2.2.1⟩ : Rt)⟩ : Obs), fun r => (r, ())⟩
noncomputable def code_spec_l11Ok : Code := Try.f102.body.getD .skip
noncomputable def E_spec_l11Ok : Env := ⟨lay, [(173, c_spec_l11Fits), (174, c_spec_l01In), (175, c_spec_IsBetween), (78, c_spec_RatOk), (176, c_spec_RatSign)], [], []⟩
theorem cons_spec_l11Ok : ConsOk Try.prog E_spec_l11Ok.cons := consOk_cons m_spec_l11Fits (callable_of Try.func173 (by kernel_rfl)) (consOk_cons m_spec_l01In (callable_of Try.func174 (by kernel_rfl)) (consOk_cons m_spec_IsBetween (callable_of Try.func175 (by kernel_rfl)) (consOk_cons m_spec_RatOk (callable_of Try.func78 (by kernel_rfl)) (consOk_cons m_spec_RatSign (callable_of Try.func176 (by kernel_rfl)) (consOk_nil)))))
theorem loops_spec_l11Ok : loopsIn code_spec_l11Ok = [] := by kernel_rfl
theorem m_spec_l11Ok : Meets Try.prog 102 c_spec_l11Ok := meets_of (E := E_spec_l11Ok) (code := code_spec_l11Ok) mix lay_ok cons_spec_l11Ok Try.func102 (by kernel_rfl) sg_spec_l11Ok (by kernel_rfl) (fun y => y.1) c_spec_l11Ok.out (fun _ => rfl) c_spec_l11Ok.run (fun x => by kernel_rfl) (by kernel_rfl) (loops_mem loops_spec_l11Ok (trivial))

noncomputable def sg_spec_ObservationsOk : Sig := ⟨[(true, [.d (.bool), .d (.sl .sta)]), (false, [.d (.sl .obs)])], [], false, [(false, [.d (.bool)])], []⟩
noncomputable def c_spec_ObservationsOk : Con := ⟨sg_spec_ObservationsOk, Bool, fun x => M_spec_ObservationsOk (⟨x.1, x.2.1⟩ : Net) x.2.2.1, fun r => (r, ())⟩
noncomputable def code_spec_ObservationsOk : Code := Try.f28.body.getD .skip
noncomputable def body_spec_ObservationsOk_0 : Code := (loopsIn code_spec_ObservationsOk).getD 0 .skip
noncomputable def D_spec_ObservationsOk_0 : LoopD := ⟨⟨mkSlots [(2, false, [.lp 128 0]), (15, false, [.d (.sl .obs)]), (16, false, [.d (.int .i64)]), (17, false, [.d (.int .i64)])] 26 0, [(128, .box [.d (.bool), .d (.sl .sta)])]⟩, [], [(.ret, ⟨mkSlots [(4, false, [.d (.bool)])] 26 0, []⟩, []), (.exit 0, ⟨mkSlots [] 26 0, []⟩, [])]⟩
noncomputable def S_spec_ObservationsOk_0_w (x : Tys D_spec_ObservationsOk_0.head.ks) : Option (OutT D_spec_ObservationsOk_0.outs) := @whileO ((List Obs) × Int × Int × Bool × (List Sta) × Unit) ((Bool × Unit) ⊕ (Unit)) S_spec_ObservationsOk_0 x
noncomputable def E_spec_ObservationsOk : Env := ⟨lay, [(101, c_spec_NetworkOk), (102, c_spec_l11Ok)], [(4, mkLM D_spec_ObservationsOk_0 S_spec_ObservationsOk_0_w)], []⟩
theorem cons_spec_ObservationsOk : ConsOk Try.prog E_spec_ObservationsOk.cons := consOk_cons m_spec_NetworkOk (callable_of Try.func101 (by kernel_rfl)) (consOk_cons m_spec_l11Ok (callable_of Try.func102 (by kernel_rfl)) (consOk_nil))
theorem S_spec_ObservationsOk_0_ok (x : Tys D_spec_ObservationsOk_0.head.ks) : stepL E_spec_ObservationsOk D_spec_ObservationsOk_0 body_spec_ObservationsOk_0 x = S_spec_ObservationsOk_0 x := by kernel_rfl
theorem loops_spec_ObservationsOk_0 : loopsIn body_spec_ObservationsOk_0 = [] := by kernel_rfl
theorem l_spec_ObservationsOk_0 : LoopOk Try.prog (mkLM D_spec_ObservationsOk_0 S_spec_ObservationsOk_0_w) body_spec_ObservationsOk_0 := loop_ok2 mix lay_ok cons_spec_ObservationsOk (by kernel_rfl) (loops_mem loops_spec_ObservationsOk_0 (trivial)) S_spec_ObservationsOk_0_ok fun _ _ h => h
theorem loops_spec_ObservationsOk : loopsIn code_spec_ObservationsOk = [body_spec_ObservationsOk_0] := by kernel_rfl
theorem m_spec_ObservationsOk : Meets Try.prog 28 c_spec_ObservationsOk := meets_of (E := E_spec_ObservationsOk) (code := code_spec_ObservationsOk) mix lay_ok cons_spec_ObservationsOk Try.func28 (by kernel_rfl) sg_spec_ObservationsOk (by kernel_rfl) (fun y => y.1) c_spec_ObservationsOk.out (fun _ => rfl) c_spec_ObservationsOk.run (fun x => by kernel_rfl) (by kernel_rfl) (loops_mem loops_spec_ObservationsOk (⟨⟨_, by kernel_rfl, l_spec_ObservationsOk_0⟩, trivial⟩))

noncomputable def sg_spec_BookOk : Sig := ⟨[(true, [.d (.bool), .d (.sl .sta), .d (.sl .obs)])], [], false, [(false, [.d (.bool)])], []⟩
noncomputable def c_spec_BookOk : Con := ⟨sg_spec_BookOk, Bool, fun x => M_spec_BookOk (⟨x.1, x.2.1, x.2.2.1⟩ : Bk), fun r => (r, ())⟩
noncomputable def code_spec_BookOk : Code := Try.f42.body.getD .skip
noncomputable def E_spec_BookOk : Env := ⟨lay, [(28, c_spec_ObservationsOk)], [], []⟩
theorem cons_spec_BookOk : ConsOk Try.prog E_spec_BookOk.cons := consOk_cons m_spec_ObservationsOk (callable_of Try.func28 (by kernel_rfl)) (consOk_nil)
theorem loops_spec_BookOk : loopsIn code_spec_BookOk = [] := by kernel_rfl
theorem m_spec_BookOk : Meets Try.prog 42 c_spec_BookOk := meets_of (E := E_spec_BookOk) (code := code_spec_BookOk) mix lay_ok cons_spec_BookOk Try.func42 (by kernel_rfl) sg_spec_BookOk (by kernel_rfl) (fun y => y.1) c_spec_BookOk.out (fun _ => rfl) c_spec_BookOk.run (fun x => by kernel_rfl) (by kernel_rfl) (loops_mem loops_spec_BookOk (trivial))

noncomputable def sg_impl_IsName : Sig := ⟨[(false, [.d (.str)])], [], false, [(false, [.d (.bool)])], []⟩
noncomputable def c_impl_IsName : Con := ⟨sg_impl_IsName, Bool, fun x => M_impl_IsName x.1, fun r => (r, ())⟩
noncomputable def code_impl_IsName : Code := Try.f126.body.getD .skip
noncomputable def body_impl_IsName_0 : Code := (loopsIn code_impl_IsName).getD 0 .skip
noncomputable def D_impl_IsName_0 : LoopD := ⟨⟨mkSlots [(0, false, [.d (.str)]), (3, false, [.d (.int .i64)])] 50 0, []⟩, [], [(.ret, ⟨mkSlots [(2, false, [.d (.bool)])] 50 0, []⟩, []), (.exit 0, ⟨mkSlots [] 50 0, []⟩, [])]⟩
noncomputable def S_impl_IsName_0_w (x : Tys D_impl_IsName_0.head.ks) : Option (OutT D_impl_IsName_0.outs) := @whileO (ByteArray × Int × Unit) ((Bool × Unit) ⊕ (Unit)) S_impl_IsName_0 x
noncomputable def E_impl_IsName : Env := ⟨lay, [], [(4, mkLM D_impl_IsName_0 S_impl_IsName_0_w)], []⟩
theorem cons_impl_IsName : ConsOk Try.prog E_impl_IsName.cons := consOk_nil
theorem S_impl_IsName_0_ok (x : Tys D_impl_IsName_0.head.ks) : stepL E_impl_IsName D_impl_IsName_0 body_impl_IsName_0 x = S_impl_IsName_0 x := by kernel_rfl
theorem loops_impl_IsName_0 : loopsIn body_impl_IsName_0 = [] := by kernel_rfl
theorem l_impl_IsName_0 : LoopOk Try.prog (mkLM D_impl_IsName_0 S_impl_IsName_0_w) body_impl_IsName_0 := loop_ok2 mix lay_ok cons_impl_IsName (by kernel_rfl) (loops_mem loops_impl_IsName_0 (trivial)) S_impl_IsName_0_ok fun _ _ h => h
theorem loops_impl_IsName : loopsIn code_impl_IsName = [body_impl_IsName_0] := by kernel_rfl
theorem m_impl_IsName : Meets Try.prog 126 c_impl_IsName := meets_of (E := E_impl_IsName) (code := code_impl_IsName) mix lay_ok cons_impl_IsName Try.func126 (by kernel_rfl) sg_impl_IsName (by kernel_rfl) (fun y => y.1) c_impl_IsName.out (fun _ => rfl) c_impl_IsName.run (fun x => by kernel_rfl) (by kernel_rfl) (loops_mem loops_impl_IsName (⟨⟨_, by kernel_rfl, l_impl_IsName_0⟩, trivial⟩))

noncomputable def sg_impl_NatOk : Sig := ⟨[(false, [.d (.sl .int)])], [], false, [(false, [.d (.bool)])], []⟩
noncomputable def c_impl_NatOk : Con := ⟨sg_impl_NatOk, Bool, fun x => M_impl_NatOk x.1, fun r => (r, ())⟩
noncomputable def code_impl_NatOk : Code := Try.f155.body.getD .skip
noncomputable def body_impl_NatOk_0 : Code := (loopsIn code_impl_NatOk).getD 0 .skip
noncomputable def D_impl_NatOk_0 : LoopD := ⟨⟨mkSlots [(22, false, [.d (.sl .int)]), (23, false, [.d (.int .i64)]), (24, false, [.d (.int .i64)])] 35 0, []⟩, [], [(.ret, ⟨mkSlots [(2, false, [.d (.bool)])] 35 0, []⟩, []), (.exit 0, ⟨mkSlots [] 35 0, []⟩, [])]⟩
noncomputable def S_impl_NatOk_0_w (x : Tys D_impl_NatOk_0.head.ks) : Option (OutT D_impl_NatOk_0.outs) := @whileO ((List Int) × Int × Int × Unit) ((Bool × Unit) ⊕ (Unit)) S_impl_NatOk_0 x
noncomputable def E_impl_NatOk : Env := ⟨lay, [], [(4, mkLM D_impl_NatOk_0 S_impl_NatOk_0_w)], []⟩
theorem cons_impl_NatOk : ConsOk Try.prog E_impl_NatOk.cons := consOk_nil
theorem S_impl_NatOk_0_ok (x : Tys D_impl_NatOk_0.head.ks) : stepL E_impl_NatOk D_impl_NatOk_0 body_impl_NatOk_0 x = S_impl_NatOk_0 x := by kernel_rfl
theorem loops_impl_NatOk_0 : loopsIn body_impl_NatOk_0 = [] := by kernel_rfl
theorem l_impl_NatOk_0 : LoopOk Try.prog (mkLM D_impl_NatOk_0 S_impl_NatOk_0_w) body_impl_NatOk_0 := loop_ok2 mix lay_ok cons_impl_NatOk (by kernel_rfl) (loops_mem loops_impl_NatOk_0 (trivial)) S_impl_NatOk_0_ok fun _ _ h => h
theorem loops_impl_NatOk : loopsIn code_impl_NatOk = [body_impl_NatOk_0] := by kernel_rfl
theorem m_impl_NatOk : Meets Try.prog 155 c_impl_NatOk := meets_of (E := E_impl_NatOk) (code := code_impl_NatOk) mix lay_ok cons_impl_NatOk Try.func155 (by kernel_rfl) sg_impl_NatOk (by kernel_rfl) (fun y => y.1) c_impl_NatOk.out (fun _ => rfl) c_impl_NatOk.run (fun x => by kernel_rfl) (by kernel_rfl) (loops_mem loops_impl_NatOk (⟨⟨_, by kernel_rfl, l_impl_NatOk_0⟩, trivial⟩))

noncomputable def sg_impl_BigIntOk : Sig := ⟨[(true, [.d (.bool), .d (.sl .int)])], [], false, [(false, [.d (.bool)])], []⟩
noncomputable def c_impl_BigIntOk : Con := ⟨sg_impl_BigIntOk, Bool, fun x => M_impl_BigIntOk (⟨x.1, x.2.1⟩ : Bg), fun r => (r, ())⟩
noncomputable def code_impl_BigIntOk : Code := Try.f154.body.getD .skip
noncomputable def E_impl_BigIntOk : Env := ⟨lay, [(155, c_impl_NatOk)], [], []⟩
theorem cons_impl_BigIntOk : ConsOk Try.prog E_impl_BigIntOk.cons := consOk_cons m_impl_NatOk (callable_of Try.func155 (by kernel_rfl)) (consOk_nil)
theorem loops_impl_BigIntOk : loopsIn code_impl_BigIntOk = [] := by kernel_rfl
theorem m_impl_BigIntOk : Meets Try.prog 154 c_impl_BigIntOk := meets_of (E := E_impl_BigIntOk) (code := code_impl_BigIntOk) mix lay_ok cons_impl_BigIntOk Try.func154 (by kernel_rfl) sg_impl_BigIntOk (by kernel_rfl) (fun y => y.1) c_impl_BigIntOk.out (fun _ => rfl) c_impl_BigIntOk.run (fun x => by kernel_rfl) (by kernel_rfl) (loops_mem loops_impl_BigIntOk (trivial))

noncomputable def sg_impl_natCmp : Sig := ⟨[(false, [.d (.sl .int)]), (false, [.d (.sl .int)])], [], false, [(false, [.d (.int .i64)])], []⟩
noncomputable def c_impl_natCmp : Con := ⟨sg_impl_natCmp, Int, fun x => M_impl_natCmp x.1 x.2.1, fun r => (r, ())⟩
noncomputable def code_impl_natCmp : Code := Try.f220.body.getD .skip
noncomputable def body_impl_natCmp_0 : Code := (loopsIn code_impl_natCmp).getD 0 .skip
noncomputable def D_impl_natCmp_0 : LoopD := ⟨⟨mkSlots [(0, false, [.d (.sl .int)]), (1, false, [.d (.sl .int)]), (5, false, [.d (.int .i64)])] 43 0, []⟩, [], [(.ret, ⟨mkSlots [(4, false, [.d (.int .i64)])] 43 0, []⟩, []), (.exit 0, ⟨mkSlots [] 43 0, []⟩, [])]⟩
noncomputable def S_impl_natCmp_0_w (x : Tys D_impl_natCmp_0.head.ks) : Option (OutT D_impl_natCmp_0.outs) := @whileO ((List Int) × (List Int) × Int × Unit) ((Int × Unit) ⊕ (Unit)) S_impl_natCmp_0 x
noncomputable def E_impl_natCmp : Env := ⟨lay, [], [(6, mkLM D_impl_natCmp_0 S_impl_natCmp_0_w)], [(8, [(0, []), (1, []), (2, []), (3, []), (4, []), (5, []), (6, []), (7, []), (8, []), (9, [8, 3, 7, 2, 6, 0, 1, 4, 5])]), (10, [(0, []), (1, []), (2, []), (3, []), (4, []), (5, []), (6, []), (7, []), (8, []), (9, [8, 3, 7, 2, 6, 0, 1, 4, 5])])]⟩
theorem cons_impl_natCmp : ConsOk Try.prog E_impl_natCmp.cons := consOk_nil
theorem S_impl_natCmp_0_ok (x : Tys D_impl_natCmp_0.head.ks) : stepL E_impl_natCmp D_impl_natCmp_0 body_impl_natCmp_0 x = S_impl_natCmp_0 x := by kernel_rfl
theorem loops_impl_natCmp_0 : loopsIn body_impl_natCmp_0 = [] := by kernel_rfl
theorem l_impl_natCmp_0 : LoopOk Try.prog (mkLM D_impl_natCmp_0 S_impl_natCmp_0_w) body_impl_natCmp_0 := loop_ok2 mix lay_ok cons_impl_natCmp (by kernel_rfl) (loops_mem loops_impl_natCmp_0 (trivial)) S_impl_natCmp_0_ok fun _ _ h => h
theorem loops_impl_natCmp : loopsIn code_impl_natCmp = [body_impl_natCmp_0] := by kernel_rfl
theorem m_impl_natCmp : Meets Try.prog 220 c_impl_natCmp := meets_of (E := E_impl_natCmp) (code := code_impl_natCmp) mix lay_ok cons_impl_natCmp Try.func220 (by kernel_rfl) sg_impl_natCmp (by kernel_rfl) (fun y => y.1) c_impl_natCmp.out (fun _ => rfl) c_impl_natCmp.run (fun x => by kernel_rfl) (by kernel_rfl) (loops_mem loops_impl_natCmp (⟨⟨_, by kernel_rfl, l_impl_natCmp_0⟩, trivial⟩))

noncomputable def sg_impl_copyInts : Sig := ⟨[(false, [.d (.sl .int)])], [], false, [(false, [.own 0])], [(0, .arr false .int)]⟩
noncomputable def c_impl_copyInts : Con := ⟨sg_impl_copyInts, List Int, fun x => M_impl_copyInts x.1, fun r => (r, ())⟩
noncomputable def code_impl_copyInts : Code := Try.f163.body.getD .skip
noncomputable def E_impl_copyInts : Env := ⟨lay, [], [], []⟩
theorem cons_impl_copyInts : ConsOk Try.prog E_impl_copyInts.cons := consOk_nil
theorem loops_impl_copyInts : loopsIn code_impl_copyInts = [] := by kernel_rfl
theorem m_impl_copyInts : Meets Try.prog 163 c_impl_copyInts := meets_of (E := E_impl_copyInts) (code := code_impl_copyInts) mix lay_ok cons_impl_copyInts Try.func163 (by kernel_rfl) sg_impl_copyInts (by kernel_rfl) (fun y => y.1) c_impl_copyInts.out (fun _ => rfl) c_impl_copyInts.run (fun x => by kernel_rfl) (by kernel_rfl) (loops_mem loops_impl_copyInts (trivial))

noncomputable def sg_impl_trim_c : Sig := ⟨[(false, [.own 0])], [(0, .arr false .int)], false, [(false, [.own 0])], [(0, .arr false .int)]⟩
noncomputable def c_impl_trim_c : Con := ⟨sg_impl_trim_c, List Int, fun x => M_impl_trim_c x.1, fun r => (r, ())⟩
noncomputable def code_impl_trim_c : Code := Try.f218.body.getD .skip
noncomputable def body_impl_trim_c_0 : Code := (loopsIn code_impl_trim_c).getD 0 .skip
noncomputable def D_impl_trim_c_0 : LoopD := ⟨⟨mkSlots [(0, false, [.own 1408]), (3, false, [.d (.int .i64)])] 21 0, [(1408, .arr false .int)]⟩, [], [(.exit 0, ⟨mkSlots [(0, false, [.own 1408]), (3, false, [.d (.int .i64)])] 21 0, [(1408, .arr false .int)]⟩, [])]⟩
noncomputable def S_impl_trim_c_0_w (x : Tys D_impl_trim_c_0.head.ks) : Option (OutT D_impl_trim_c_0.outs) := @whileO (Int × (List Int) × Unit) (Int × (List Int) × Unit) S_impl_trim_c_0 x
noncomputable def E_impl_trim_c : Env := ⟨lay, [], [(2, mkLM D_impl_trim_c_0 S_impl_trim_c_0_w)], []⟩
theorem cons_impl_trim_c : ConsOk Try.prog E_impl_trim_c.cons := consOk_nil
theorem S_impl_trim_c_0_ok (x : Tys D_impl_trim_c_0.head.ks) : stepL E_impl_trim_c D_impl_trim_c_0 body_impl_trim_c_0 x = S_impl_trim_c_0 x := by kernel_rfl
theorem loops_impl_trim_c_0 : loopsIn body_impl_trim_c_0 = [] := by kernel_rfl
theorem l_impl_trim_c_0 : LoopOk Try.prog (mkLM D_impl_trim_c_0 S_impl_trim_c_0_w) body_impl_trim_c_0 := loop_ok2 mix lay_ok cons_impl_trim_c (by kernel_rfl) (loops_mem loops_impl_trim_c_0 (trivial)) S_impl_trim_c_0_ok fun _ _ h => h
theorem loops_impl_trim_c : loopsIn code_impl_trim_c = [body_impl_trim_c_0] := by kernel_rfl
theorem m_impl_trim_c : Meets Try.prog 218 c_impl_trim_c := meets_of (E := E_impl_trim_c) (code := code_impl_trim_c) mix lay_ok cons_impl_trim_c Try.func218 (by kernel_rfl) sg_impl_trim_c (by kernel_rfl) (fun y => y.1) c_impl_trim_c.out (fun _ => rfl) c_impl_trim_c.run (fun x => by kernel_rfl) (by kernel_rfl) (loops_mem loops_impl_trim_c (⟨⟨_, by kernel_rfl, l_impl_trim_c_0⟩, trivial⟩))

noncomputable def sg_impl_NatOf : Sig := ⟨[(false, [.d (.int .i64)])], [], false, [(false, [.own 0])], [(0, .arr false .int)]⟩
noncomputable def c_impl_NatOf : Con := ⟨sg_impl_NatOf, List Int, fun x => M_impl_NatOf x.1, fun r => (r, ())⟩
noncomputable def code_impl_NatOf : Code := Try.f207.body.getD .skip
noncomputable def body_impl_NatOf_0 : Code := (loopsIn code_impl_NatOf).getD 0 .skip
noncomputable def D_impl_NatOf_0 : LoopD := ⟨⟨mkSlots [(0, false, [.d (.int .i64)]), (3, false, [.own 960])] 14 0, [(960, .arr false .int)]⟩, [(.slot 3 0, 960, .int)], [(.exit 0, ⟨mkSlots [(3, false, [.own 960])] 14 0, [(960, .arr false .int)]⟩, [(.slot 3 0, 960, .int)])]⟩
noncomputable def S_impl_NatOf_0_w (x : Tys D_impl_NatOf_0.head.ks) : Option (OutT D_impl_NatOf_0.outs) := @whileO (Int × (List Int) × Unit) ((List Int) × Unit) S_impl_NatOf_0 x
noncomputable def E_impl_NatOf : Env := ⟨lay, [], [(2, mkLM D_impl_NatOf_0 S_impl_NatOf_0_w)], []⟩
theorem cons_impl_NatOf : ConsOk Try.prog E_impl_NatOf.cons := consOk_nil
theorem S_impl_NatOf_0_ok (x : Tys D_impl_NatOf_0.head.ks) : stepL E_impl_NatOf D_impl_NatOf_0 body_impl_NatOf_0 x = S_impl_NatOf_0 x := by kernel_rfl
theorem loops_impl_NatOf_0 : loopsIn body_impl_NatOf_0 = [] := by kernel_rfl
theorem l_impl_NatOf_0 : LoopOk Try.prog (mkLM D_impl_NatOf_0 S_impl_NatOf_0_w) body_impl_NatOf_0 := loop_ok2 mix lay_ok cons_impl_NatOf (by kernel_rfl) (loops_mem loops_impl_NatOf_0 (trivial)) S_impl_NatOf_0_ok fun _ _ h => h
theorem loops_impl_NatOf : loopsIn code_impl_NatOf = [body_impl_NatOf_0] := by kernel_rfl
theorem m_impl_NatOf : Meets Try.prog 207 c_impl_NatOf := meets_of (E := E_impl_NatOf) (code := code_impl_NatOf) mix lay_ok cons_impl_NatOf Try.func207 (by kernel_rfl) sg_impl_NatOf (by kernel_rfl) (fun y => y.1) c_impl_NatOf.out (fun _ => rfl) c_impl_NatOf.run (fun x => by kernel_rfl) (by kernel_rfl) (loops_mem loops_impl_NatOf (⟨⟨_, by kernel_rfl, l_impl_NatOf_0⟩, trivial⟩))

noncomputable def sg_impl_divSmall : Sig := ⟨[(false, [.d (.sl .int)]), (false, [.d (.int .i64)])], [], true, [(false, [.own 0]), (false, [.own 1])], [(0, .arr false .int), (1, .arr false .int)]⟩
noncomputable def c_impl_divSmall : Con := ⟨sg_impl_divSmall, List Int × List Int, fun x => M_impl_divSmall x.1 x.2.1, fun r => (r.1, r.2, ())⟩
noncomputable def code_impl_divSmall : Code := Try.f231.body.getD .skip
noncomputable def body_impl_divSmall_0 : Code := (loopsIn code_impl_divSmall).getD 0 .skip
noncomputable def D_impl_divSmall_0 : LoopD := ⟨⟨mkSlots [(0, false, [.d (.sl .int)]), (1, false, [.d (.int .i64)]), (6, false, [.own 2624]), (7, false, [.d (.int .i64)]), (8, false, [.d (.int .i64)])] 40 0, [(2624, .arr false .int)]⟩, [], [(.exit 0, ⟨mkSlots [(6, false, [.own 2624]), (7, false, [.d (.int .i64)])] 40 0, [(2624, .arr false .int)]⟩, [])]⟩
noncomputable def S_impl_divSmall_0_w (x : Tys D_impl_divSmall_0.head.ks) : Option (OutT D_impl_divSmall_0.outs) := @whileO ((List Int) × Int × Int × Int × (List Int) × Unit) (Int × (List Int) × Unit) S_impl_divSmall_0 x
noncomputable def E_impl_divSmall : Env := ⟨lay, [(218, c_impl_trim_c), (207, c_impl_NatOf)], [(4, mkLM D_impl_divSmall_0 S_impl_divSmall_0_w)], []⟩
theorem cons_impl_divSmall : ConsOk Try.prog E_impl_divSmall.cons := consOk_cons m_impl_trim_c (callable_of Try.func218 (by kernel_rfl)) (consOk_cons m_impl_NatOf (callable_of Try.func207 (by kernel_rfl)) (consOk_nil))
theorem S_impl_divSmall_0_ok (x : Tys D_impl_divSmall_0.head.ks) : stepL E_impl_divSmall D_impl_divSmall_0 body_impl_divSmall_0 x = S_impl_divSmall_0 x := by kernel_rfl
theorem loops_impl_divSmall_0 : loopsIn body_impl_divSmall_0 = [] := by kernel_rfl
theorem l_impl_divSmall_0 : LoopOk Try.prog (mkLM D_impl_divSmall_0 S_impl_divSmall_0_w) body_impl_divSmall_0 := loop_ok2 mix lay_ok cons_impl_divSmall (by kernel_rfl) (loops_mem loops_impl_divSmall_0 (trivial)) S_impl_divSmall_0_ok fun _ _ h => h
theorem loops_impl_divSmall : loopsIn code_impl_divSmall = [body_impl_divSmall_0] := by kernel_rfl
theorem m_impl_divSmall : Meets Try.prog 231 c_impl_divSmall := meets_of (E := E_impl_divSmall) (code := code_impl_divSmall) mix lay_ok cons_impl_divSmall Try.func231 (by kernel_rfl) sg_impl_divSmall (by kernel_rfl) (fun y => (y.1, y.2.1)) c_impl_divSmall.out (fun _ => rfl) c_impl_divSmall.run (fun x => by kernel_rfl) (by kernel_rfl) (loops_mem loops_impl_divSmall (⟨⟨_, by kernel_rfl, l_impl_divSmall_0⟩, trivial⟩))

noncomputable def sg_impl_natMul : Sig := ⟨[(false, [.d (.sl .int)]), (false, [.d (.sl .int)])], [], false, [(false, [.own 0])], [(0, .arr false .int)]⟩
noncomputable def c_impl_natMul : Con := ⟨sg_impl_natMul, List Int, fun x => M_impl_natMul x.1 x.2.1, fun r => (r, ())⟩
noncomputable def code_impl_natMul : Code := Try.f160.body.getD .skip
noncomputable def body_impl_natMul_0 : Code := (loopsIn code_impl_natMul).getD 0 .skip
noncomputable def body_impl_natMul_1 : Code := (loopsIn body_impl_natMul_0).getD 0 .skip
noncomputable def D_impl_natMul_0 : LoopD := ⟨⟨mkSlots [(1, false, [.d (.sl .int)]), (5, false, [.own 4352]), (18, false, [.d (.sl .int)]), (19, false, [.d (.int .i64)]), (20, false, [.d (.int .i64)])] 67 0, [(4352, .arr false .int)]⟩, [], [(.exit 0, ⟨mkSlots [(5, false, [.own 4352])] 67 0, [(4352, .arr false .int)]⟩, [])]⟩
noncomputable def D_impl_natMul_1 : LoopD := ⟨⟨mkSlots [(1, false, [.d (.sl .int)]), (5, false, [.own 4352]), (6, false, [.d (.int .i64)]), (7, false, [.d (.int .i64)]), (8, false, [.d (.int .i64)]), (18, false, [.d (.sl .int)]), (19, false, [.d (.int .i64)]), (20, false, [.d (.int .i64)]), (25, false, [.d (.sl .int)]), (26, false, [.d (.int .i64)]), (27, false, [.d (.int .i64)])] 67 0, [(4352, .arr false .int)]⟩, [], [(.exit 2, ⟨mkSlots [(1, false, [.d (.sl .int)]), (5, false, [.own 4352]), (6, false, [.d (.int .i64)]), (8, false, [.d (.int .i64)]), (18, false, [.d (.sl .int)]), (19, false, [.d (.int .i64)]), (20, false, [.d (.int .i64)])] 67 0, [(4352, .arr false .int)]⟩, [])]⟩
noncomputable def S_impl_natMul_0_w (x : Tys D_impl_natMul_0.head.ks) : Option (OutT D_impl_natMul_0.outs) := @whileO ((List Int) × (List Int) × Int × Int × (List Int) × Unit) ((List Int) × Unit) S_impl_natMul_0 x
noncomputable def S_impl_natMul_1_w (x : Tys D_impl_natMul_1.head.ks) : Option (OutT D_impl_natMul_1.outs) := @whileO ((List Int) × Int × Int × Int × (List Int) × Int × Int × (List Int) × Int × Int × (List Int) × Unit) ((List Int) × Int × Int × (List Int) × Int × Int × (List Int) × Unit) S_impl_natMul_1 x
noncomputable def E_impl_natMul : Env := ⟨lay, [(218, c_impl_trim_c)], [(3, mkLM D_impl_natMul_0 S_impl_natMul_0_w), (7, mkLM D_impl_natMul_1 S_impl_natMul_1_w)], []⟩
theorem cons_impl_natMul : ConsOk Try.prog E_impl_natMul.cons := consOk_cons m_impl_trim_c (callable_of Try.func218 (by kernel_rfl)) (consOk_nil)
theorem S_impl_natMul_1_ok (x : Tys D_impl_natMul_1.head.ks) : stepL E_impl_natMul D_impl_natMul_1 body_impl_natMul_1 x = S_impl_natMul_1 x := by kernel_rfl
theorem loops_impl_natMul_1 : loopsIn body_impl_natMul_1 = [] := by kernel_rfl
theorem l_impl_natMul_1 : LoopOk Try.prog (mkLM D_impl_natMul_1 S_impl_natMul_1_w) body_impl_natMul_1 := loop_ok2 mix lay_ok cons_impl_natMul (by kernel_rfl) (loops_mem loops_impl_natMul_1 (trivial)) S_impl_natMul_1_ok fun _ _ h => h
theorem S_impl_natMul_0_ok (x : Tys D_impl_natMul_0.head.ks) : stepL E_impl_natMul D_impl_natMul_0 body_impl_natMul_0 x = S_impl_natMul_0 x := by kernel_rfl
theorem loops_impl_natMul_0 : loopsIn body_impl_natMul_0 = [body_impl_natMul_1] := by kernel_rfl
theorem l_impl_natMul_0 : LoopOk Try.prog (mkLM D_impl_natMul_0 S_impl_natMul_0_w) body_impl_natMul_0 := loop_ok2 mix lay_ok cons_impl_natMul (by kernel_rfl) (loops_mem loops_impl_natMul_0 (⟨⟨_, by kernel_rfl, l_impl_natMul_1⟩, trivial⟩)) S_impl_natMul_0_ok fun _ _ h => h
theorem loops_impl_natMul : loopsIn code_impl_natMul = [body_impl_natMul_0] := by kernel_rfl
theorem m_impl_natMul : Meets Try.prog 160 c_impl_natMul := meets_of (E := E_impl_natMul) (code := code_impl_natMul) mix lay_ok cons_impl_natMul Try.func160 (by kernel_rfl) sg_impl_natMul (by kernel_rfl) (fun y => y.1) c_impl_natMul.out (fun _ => rfl) c_impl_natMul.run (fun x => by kernel_rfl) (by kernel_rfl) (loops_mem loops_impl_natMul (⟨⟨_, by kernel_rfl, l_impl_natMul_0⟩, trivial⟩))

noncomputable def sg_impl_natDiv : Sig := ⟨[(false, [.d (.sl .int)]), (false, [.d (.sl .int)])], [], true, [(false, [.own 0]), (false, [.own 1])], [(0, .arr false .int), (1, .arr false .int)]⟩
noncomputable def c_impl_natDiv : Con := ⟨sg_impl_natDiv, List Int × List Int, fun x => M_impl_natDiv x.1 x.2.1, fun r => (r.1, r.2, ())⟩
noncomputable def code_impl_natDiv : Code := Try.f204.body.getD .skip
noncomputable def body_impl_natDiv_0 : Code := (loopsIn code_impl_natDiv).getD 0 .skip
noncomputable def body_impl_natDiv_1 : Code := (loopsIn code_impl_natDiv).getD 1 .skip
noncomputable def body_impl_natDiv_2 : Code := (loopsIn body_impl_natDiv_1).getD 0 .skip
noncomputable def body_impl_natDiv_3 : Code := (loopsIn body_impl_natDiv_1).getD 1 .skip
noncomputable def body_impl_natDiv_4 : Code := (loopsIn body_impl_natDiv_1).getD 2 .skip
noncomputable def D_impl_natDiv_0 : LoopD := ⟨⟨mkSlots [(0, false, [.d (.sl .int)]), (6, false, [.d (.int .i64)]), (7, false, [.own 15360]), (8, false, [.own 15424]), (9, false, [.d (.int .i64)])] 239 0, [(15360, .arr false .int), (15424, .arr false .int)]⟩, [], [(.exit 0, ⟨mkSlots [(6, false, [.d (.int .i64)]), (7, false, [.own 15360]), (8, false, [.own 15424]), (9, false, [.d (.int .i64)])] 239 0, [(15360, .arr false .int), (15424, .arr false .int)]⟩, [])]⟩
noncomputable def D_impl_natDiv_1 : LoopD := ⟨⟨mkSlots [(6, false, [.d (.int .i64)]), (7, false, [.own 15360]), (8, false, [.own 15424]), (9, false, [.d (.int .i64)]), (10, false, [.own 15488]), (11, false, [.d (.int .i64)]), (12, false, [.d (.int .i64)])] 239 0, [(15360, .arr false .int), (15424, .arr false .int), (15488, .arr false .int)]⟩, [], [(.exit 2, ⟨mkSlots [(6, false, [.d (.int .i64)]), (7, false, [.own 15360]), (10, false, [.own 15488])] 239 0, [(15360, .arr false .int), (15488, .arr false .int)]⟩, [])]⟩
noncomputable def D_impl_natDiv_2 : LoopD := ⟨⟨mkSlots [(6, false, [.d (.int .i64)]), (7, false, [.own 15360]), (8, false, [.own 15424]), (9, false, [.d (.int .i64)]), (10, false, [.own 15488]), (11, false, [.d (.int .i64)]), (12, false, [.d (.int .i64)]), (14, false, [.d (.int .i64)]), (15, false, [.d (.int .i64)])] 239 0, [(15360, .arr false .int), (15424, .arr false .int), (15488, .arr false .int)]⟩, [], [(.exit 4, ⟨mkSlots [(6, false, [.d (.int .i64)]), (7, false, [.own 15360]), (8, false, [.own 15424]), (9, false, [.d (.int .i64)]), (10, false, [.own 15488]), (11, false, [.d (.int .i64)]), (12, false, [.d (.int .i64)]), (14, false, [.d (.int .i64)])] 239 0, [(15360, .arr false .int), (15424, .arr false .int), (15488, .arr false .int)]⟩, [])]⟩
noncomputable def D_impl_natDiv_3 : LoopD := ⟨⟨mkSlots [(6, false, [.d (.int .i64)]), (7, false, [.own 15360]), (8, false, [.own 15424]), (9, false, [.d (.int .i64)]), (10, false, [.own 15488]), (11, false, [.d (.int .i64)]), (12, false, [.d (.int .i64)]), (14, false, [.d (.int .i64)]), (16, false, [.d (.int .i64)]), (135, false, [.d (.int .i64)]), (136, false, [.d (.int .i64)])] 239 0, [(15360, .arr false .int), (15424, .arr false .int), (15488, .arr false .int)]⟩, [], [(.exit 6, ⟨mkSlots [(6, false, [.d (.int .i64)]), (7, false, [.own 15360]), (8, false, [.own 15424]), (9, false, [.d (.int .i64)]), (10, false, [.own 15488]), (11, false, [.d (.int .i64)]), (12, false, [.d (.int .i64)]), (14, false, [.d (.int .i64)]), (16, false, [.d (.int .i64)])] 239 0, [(15360, .arr false .int), (15424, .arr false .int), (15488, .arr false .int)]⟩, [])]⟩
noncomputable def D_impl_natDiv_4 : LoopD := ⟨⟨mkSlots [(6, false, [.d (.int .i64)]), (7, false, [.own 15360]), (8, false, [.own 15424]), (9, false, [.d (.int .i64)]), (10, false, [.own 15488]), (11, false, [.d (.int .i64)]), (12, false, [.d (.int .i64)]), (14, false, [.d (.int .i64)]), (19, false, [.d (.int .i64)]), (188, false, [.d (.int .i64)]), (189, false, [.d (.int .i64)])] 239 0, [(15360, .arr false .int), (15424, .arr false .int), (15488, .arr false .int)]⟩, [], [(.exit 8, ⟨mkSlots [(6, false, [.d (.int .i64)]), (7, false, [.own 15360]), (8, false, [.own 15424]), (9, false, [.d (.int .i64)]), (10, false, [.own 15488]), (11, false, [.d (.int .i64)]), (12, false, [.d (.int .i64)]), (14, false, [.d (.int .i64)]), (19, false, [.d (.int .i64)])] 239 0, [(15360, .arr false .int), (15424, .arr false .int), (15488, .arr false .int)]⟩, [])]⟩
noncomputable def S_impl_natDiv_0_w (x : Tys D_impl_natDiv_0.head.ks) : Option (OutT D_impl_natDiv_0.outs) := @whileO ((List Int) × Int × Int × (List Int) × (List Int) × Unit) (Int × Int × (List Int) × (List Int) × Unit) S_impl_natDiv_0 x
noncomputable def S_impl_natDiv_1_w (x : Tys D_impl_natDiv_1.head.ks) : Option (OutT D_impl_natDiv_1.outs) := @whileO (Int × Int × Int × Int × (List Int) × (List Int) × (List Int) × Unit) (Int × (List Int) × (List Int) × Unit) S_impl_natDiv_1 x
noncomputable def S_impl_natDiv_2_w (x : Tys D_impl_natDiv_2.head.ks) : Option (OutT D_impl_natDiv_2.outs) := @whileO (Int × Int × Int × Int × Int × Int × (List Int) × (List Int) × (List Int) × Unit) (Int × Int × Int × Int × Int × (List Int) × (List Int) × (List Int) × Unit) S_impl_natDiv_2 x
noncomputable def S_impl_natDiv_3_w (x : Tys D_impl_natDiv_3.head.ks) : Option (OutT D_impl_natDiv_3.outs) := @whileO (Int × Int × Int × Int × Int × Int × Int × Int × (List Int) × (List Int) × (List Int) × Unit) (Int × Int × Int × Int × Int × Int × (List Int) × (List Int) × (List Int) × Unit) S_impl_natDiv_3 x
noncomputable def S_impl_natDiv_4_w (x : Tys D_impl_natDiv_4.head.ks) : Option (OutT D_impl_natDiv_4.outs) := @whileO (Int × Int × Int × Int × Int × Int × Int × Int × (List Int) × (List Int) × (List Int) × Unit) (Int × Int × Int × Int × Int × Int × (List Int) × (List Int) × (List Int) × Unit) S_impl_natDiv_4 x
noncomputable def E_impl_natDiv : Env := ⟨lay, [(220, c_impl_natCmp), (163, c_impl_copyInts), (231, c_impl_divSmall), (160, c_impl_natMul), (218, c_impl_trim_c)], [(9, mkLM D_impl_natDiv_0 S_impl_natDiv_0_w), (14, mkLM D_impl_natDiv_1 S_impl_natDiv_1_w), (18, mkLM D_impl_natDiv_2 S_impl_natDiv_2_w), (24, mkLM D_impl_natDiv_3 S_impl_natDiv_3_w), (38, mkLM D_impl_natDiv_4 S_impl_natDiv_4_w)], [(16, [(0, []), (1, []), (2, []), (3, []), (4, []), (5, []), (6, []), (7, []), (8, []), (9, []), (10, []), (11, []), (12, []), (13, []), (14, []), (15, [14, 0, 1, 2, 3, 4, 5, 6, 7, 8, 9, 10, 11, 12, 13])]), (17, [(0, []), (1, []), (2, []), (3, []), (4, []), (5, []), (6, [2, 0, 1]), (7, [5, 6, 0, 1, 2, 3, 4])]), (18, [(0, []), (1, []), (2, []), (3, []), (4, []), (5, []), (6, []), (7, []), (8, []), (9, []), (10, []), (11, []), (12, []), (13, []), (14, []), (15, []), (16, []), (17, []), (18, []), (19, []), (20, []), (21, [])]), (26, [(0, []), (1, []), (2, []), (3, []), (4, []), (5, []), (6, []), (7, []), (8, []), (9, []), (10, []), (11, []), (12, []), (13, []), (14, []), (15, [14, 0, 1, 2, 3, 4, 5, 6, 7, 8, 9, 10, 11, 12, 13])]), (40, [(0, []), (1, []), (2, []), (3, []), (4, []), (5, []), (6, []), (7, []), (8, []), (9, []), (10, []), (11, []), (12, []), (13, [12, 0, 1, 2, 3, 4, 5, 6, 7, 8, 9, 10, 11])])]⟩
theorem cons_impl_natDiv : ConsOk Try.prog E_impl_natDiv.cons := consOk_cons m_impl_natCmp (callable_of Try.func220 (by kernel_rfl)) (consOk_cons m_impl_copyInts (callable_of Try.func163 (by kernel_rfl)) (consOk_cons m_impl_divSmall (callable_of Try.func231 (by kernel_rfl)) (consOk_cons m_impl_natMul (callable_of Try.func160 (by kernel_rfl)) (consOk_cons m_impl_trim_c (callable_of Try.func218 (by kernel_rfl)) (consOk_nil)))))
theorem S_impl_natDiv_4_ok (x : Tys D_impl_natDiv_4.head.ks) : stepL E_impl_natDiv D_impl_natDiv_4 body_impl_natDiv_4 x = S_impl_natDiv_4 x := by kernel_rfl
theorem loops_impl_natDiv_4 : loopsIn body_impl_natDiv_4 = [] := by kernel_rfl
theorem l_impl_natDiv_4 : LoopOk Try.prog (mkLM D_impl_natDiv_4 S_impl_natDiv_4_w) body_impl_natDiv_4 := loop_ok2 mix lay_ok cons_impl_natDiv (by kernel_rfl) (loops_mem loops_impl_natDiv_4 (trivial)) S_impl_natDiv_4_ok fun _ _ h => h
theorem S_impl_natDiv_3_ok (x : Tys D_impl_natDiv_3.head.ks) : stepL E_impl_natDiv D_impl_natDiv_3 body_impl_natDiv_3 x = S_impl_natDiv_3 x := by kernel_rfl
theorem loops_impl_natDiv_3 : loopsIn body_impl_natDiv_3 = [] := by kernel_rfl
theorem l_impl_natDiv_3 : LoopOk Try.prog (mkLM D_impl_natDiv_3 S_impl_natDiv_3_w) body_impl_natDiv_3 := loop_ok2 mix lay_ok cons_impl_natDiv (by kernel_rfl) (loops_mem loops_impl_natDiv_3 (trivial)) S_impl_natDiv_3_ok fun _ _ h => h
theorem S_impl_natDiv_2_ok (x : Tys D_impl_natDiv_2.head.ks) : stepL E_impl_natDiv D_impl_natDiv_2 body_impl_natDiv_2 x = S_impl_natDiv_2 x := by kernel_rfl
theorem loops_impl_natDiv_2 : loopsIn body_impl_natDiv_2 = [] := by kernel_rfl
theorem l_impl_natDiv_2 : LoopOk Try.prog (mkLM D_impl_natDiv_2 S_impl_natDiv_2_w) body_impl_natDiv_2 := loop_ok2 mix lay_ok cons_impl_natDiv (by kernel_rfl) (loops_mem loops_impl_natDiv_2 (trivial)) S_impl_natDiv_2_ok fun _ _ h => h
theorem S_impl_natDiv_1_ok (x : Tys D_impl_natDiv_1.head.ks) : stepL E_impl_natDiv D_impl_natDiv_1 body_impl_natDiv_1 x = S_impl_natDiv_1 x := by kernel_rfl
theorem loops_impl_natDiv_1 : loopsIn body_impl_natDiv_1 = [body_impl_natDiv_2, body_impl_natDiv_3, body_impl_natDiv_4] := by kernel_rfl
theorem l_impl_natDiv_1 : LoopOk Try.prog (mkLM D_impl_natDiv_1 S_impl_natDiv_1_w) body_impl_natDiv_1 := loop_ok2 mix lay_ok cons_impl_natDiv (by kernel_rfl) (loops_mem loops_impl_natDiv_1 (⟨⟨_, by kernel_rfl, l_impl_natDiv_2⟩, ⟨⟨_, by kernel_rfl, l_impl_natDiv_3⟩, ⟨⟨_, by kernel_rfl, l_impl_natDiv_4⟩, trivial⟩⟩⟩)) S_impl_natDiv_1_ok fun _ _ h => h
theorem S_impl_natDiv_0_ok (x : Tys D_impl_natDiv_0.head.ks) : stepL E_impl_natDiv D_impl_natDiv_0 body_impl_natDiv_0 x = S_impl_natDiv_0 x := by kernel_rfl
theorem loops_impl_natDiv_0 : loopsIn body_impl_natDiv_0 = [] := by kernel_rfl
theorem l_impl_natDiv_0 : LoopOk Try.prog (mkLM D_impl_natDiv_0 S_impl_natDiv_0_w) body_impl_natDiv_0 := loop_ok2 mix lay_ok cons_impl_natDiv (by kernel_rfl) (loops_mem loops_impl_natDiv_0 (trivial)) S_impl_natDiv_0_ok fun _ _ h => h
theorem loops_impl_natDiv : loopsIn code_impl_natDiv = [body_impl_natDiv_0, body_impl_natDiv_1] := by kernel_rfl
theorem m_impl_natDiv : Meets Try.prog 204 c_impl_natDiv := meets_of (E := E_impl_natDiv) (code := code_impl_natDiv) mix lay_ok cons_impl_natDiv Try.func204 (by kernel_rfl) sg_impl_natDiv (by kernel_rfl) (fun y => (y.1, y.2.1)) c_impl_natDiv.out (fun _ => rfl) c_impl_natDiv.run (fun x => by kernel_rfl) (by kernel_rfl) (loops_mem loops_impl_natDiv (⟨⟨_, by kernel_rfl, l_impl_natDiv_0⟩, ⟨⟨_, by kernel_rfl, l_impl_natDiv_1⟩, trivial⟩⟩))

noncomputable def sg_impl_natGcd : Sig := ⟨[(false, [.d (.sl .int)]), (false, [.d (.sl .int)])], [], false, [(false, [.own 0])], [(0, .arr false .int)]⟩
noncomputable def c_impl_natGcd : Con := ⟨sg_impl_natGcd, List Int, fun x => M_impl_natGcd x.1 x.2.1, fun r => (r, ())⟩
noncomputable def code_impl_natGcd : Code := Try.f157.body.getD .skip
noncomputable def body_impl_natGcd_0 : Code := (loopsIn code_impl_natGcd).getD 0 .skip
noncomputable def body_impl_natGcd_1 : Code := (loopsIn code_impl_natGcd).getD 1 .skip
noncomputable def D_impl_natGcd_0 : LoopD := ⟨⟨mkSlots [(0, false, [.d (.sl .int)]), (1, false, [.d (.sl .int)])] 49 0, []⟩, [], [(.exit 0, ⟨mkSlots [(0, false, [.d (.sl .int)]), (1, false, [.d (.sl .int)])] 49 0, []⟩, [])]⟩
noncomputable def D_impl_natGcd_1 : LoopD := ⟨⟨mkSlots [(7, false, [.d (.int .i64)]), (8, false, [.d (.int .i64)])] 49 0, []⟩, [], [(.exit 2, ⟨mkSlots [(7, false, [.d (.int .i64)])] 49 0, []⟩, [])]⟩
noncomputable def S_impl_natGcd_0_w (x : Tys D_impl_natGcd_0.head.ks) : Option (OutT D_impl_natGcd_0.outs) := @whileO ((List Int) × (List Int) × Unit) ((List Int) × (List Int) × Unit) S_impl_natGcd_0 x
noncomputable def S_impl_natGcd_1_w (x : Tys D_impl_natGcd_1.head.ks) : Option (OutT D_impl_natGcd_1.outs) := @whileO (Int × Int × Unit) (Int × Unit) S_impl_natGcd_1 x
noncomputable def E_impl_natGcd : Env := ⟨lay, [(204, c_impl_natDiv), (163, c_impl_copyInts)], [(1, mkLM D_impl_natGcd_0 S_impl_natGcd_0_w), (7, mkLM D_impl_natGcd_1 S_impl_natGcd_1_w)], [(6, [(0, []), (1, []), (2, []), (3, []), (4, []), (5, []), (6, [2, 0, 1]), (7, [5, 6, 0, 1, 2, 3, 4])]), (8, [(0, []), (1, []), (2, []), (3, []), (4, [0, 1]), (5, [3, 4, 0, 1, 2])])]⟩
theorem cons_impl_natGcd : ConsOk Try.prog E_impl_natGcd.cons := consOk_cons m_impl_natDiv (callable_of Try.func204 (by kernel_rfl)) (consOk_cons m_impl_copyInts (callable_of Try.func163 (by kernel_rfl)) (consOk_nil))
theorem S_impl_natGcd_1_ok (x : Tys D_impl_natGcd_1.head.ks) : stepL E_impl_natGcd D_impl_natGcd_1 body_impl_natGcd_1 x = S_impl_natGcd_1 x := by kernel_rfl
theorem loops_impl_natGcd_1 : loopsIn body_impl_natGcd_1 = [] := by kernel_rfl
theorem l_impl_natGcd_1 : LoopOk Try.prog (mkLM D_impl_natGcd_1 S_impl_natGcd_1_w) body_impl_natGcd_1 := loop_ok2 mix lay_ok cons_impl_natGcd (by kernel_rfl) (loops_mem loops_impl_natGcd_1 (trivial)) S_impl_natGcd_1_ok fun _ _ h => h
theorem S_impl_natGcd_0_ok (x : Tys D_impl_natGcd_0.head.ks) : stepL E_impl_natGcd D_impl_natGcd_0 body_impl_natGcd_0 x = S_impl_natGcd_0 x := by kernel_rfl
theorem loops_impl_natGcd_0 : loopsIn body_impl_natGcd_0 = [] := by kernel_rfl
theorem l_impl_natGcd_0 : LoopOk Try.prog (mkLM D_impl_natGcd_0 S_impl_natGcd_0_w) body_impl_natGcd_0 := loop_ok2 mix lay_ok cons_impl_natGcd (by kernel_rfl) (loops_mem loops_impl_natGcd_0 (trivial)) S_impl_natGcd_0_ok fun _ _ h => h
theorem loops_impl_natGcd : loopsIn code_impl_natGcd = [body_impl_natGcd_0, body_impl_natGcd_1] := by kernel_rfl
theorem m_impl_natGcd : Meets Try.prog 157 c_impl_natGcd := meets_of (E := E_impl_natGcd) (code := code_impl_natGcd) mix lay_ok cons_impl_natGcd Try.func157 (by kernel_rfl) sg_impl_natGcd (by kernel_rfl) (fun y => y.1) c_impl_natGcd.out (fun _ => rfl) c_impl_natGcd.run (fun x => by kernel_rfl) (by kernel_rfl) (loops_mem loops_impl_natGcd (⟨⟨_, by kernel_rfl, l_impl_natGcd_0⟩, ⟨⟨_, by kernel_rfl, l_impl_natGcd_1⟩, trivial⟩⟩))

noncomputable def sg_impl_isOne : Sig := ⟨[(false, [.d (.sl .int)])], [], false, [(false, [.d (.bool)])], []⟩
noncomputable def c_impl_isOne : Con := ⟨sg_impl_isOne, Bool, fun x => M_impl_isOne x.1, fun r => (r, ())⟩
noncomputable def code_impl_isOne : Code := Try.f156.body.getD .skip
noncomputable def E_impl_isOne : Env := ⟨lay, [], [], []⟩
theorem cons_impl_isOne : ConsOk Try.prog E_impl_isOne.cons := consOk_nil
theorem loops_impl_isOne : loopsIn code_impl_isOne = [] := by kernel_rfl
theorem m_impl_isOne : Meets Try.prog 156 c_impl_isOne := meets_of (E := E_impl_isOne) (code := code_impl_isOne) mix lay_ok cons_impl_isOne Try.func156 (by kernel_rfl) sg_impl_isOne (by kernel_rfl) (fun y => y.1) c_impl_isOne.out (fun _ => rfl) c_impl_isOne.run (fun x => by kernel_rfl) (by kernel_rfl) (loops_mem loops_impl_isOne (trivial))

noncomputable def sg_impl_RatOk : Sig := ⟨[(true, [.d (.bool), .d (.sl .int), .d (.sl .int)])], [], false, [(false, [.d (.bool)])], []⟩
noncomputable def c_impl_RatOk : Con := ⟨sg_impl_RatOk, Bool, fun x => M_impl_RatOk (⟨x.1, x.2.1, x.2.2.1⟩ : Rt), fun r => (r, ())⟩
noncomputable def code_impl_RatOk : Code := Try.f82.body.getD .skip
noncomputable def E_impl_RatOk : Env := ⟨lay, [(154, c_impl_BigIntOk), (155, c_impl_NatOk), (157, c_impl_natGcd), (156, c_impl_isOne)], [], []⟩
theorem cons_impl_RatOk : ConsOk Try.prog E_impl_RatOk.cons := consOk_cons m_impl_BigIntOk (callable_of Try.func154 (by kernel_rfl)) (consOk_cons m_impl_NatOk (callable_of Try.func155 (by kernel_rfl)) (consOk_cons m_impl_natGcd (callable_of Try.func157 (by kernel_rfl)) (consOk_cons m_impl_isOne (callable_of Try.func156 (by kernel_rfl)) (consOk_nil))))
theorem loops_impl_RatOk : loopsIn code_impl_RatOk = [] := by kernel_rfl
theorem m_impl_RatOk : Meets Try.prog 82 c_impl_RatOk := meets_of (E := E_impl_RatOk) (code := code_impl_RatOk) mix lay_ok cons_impl_RatOk Try.func82 (by kernel_rfl) sg_impl_RatOk (by kernel_rfl) (fun y => y.1) c_impl_RatOk.out (fun _ => rfl) c_impl_RatOk.run (fun x => by kernel_rfl) (by kernel_rfl) (loops_mem loops_impl_RatOk (trivial))

noncomputable def sg_impl_isZero : Sig := ⟨[(true, [.d (.bool), .d (.sl .int), .d (.sl .int)])], [], false, [(false, [.d (.bool)])], []⟩
noncomputable def c_impl_isZero : Con := ⟨sg_impl_isZero, Bool, fun x => M_impl_isZero (⟨x.1, x.2.1, x.2.2.1⟩ : Rt), fun r => (r, ())⟩
noncomputable def code_impl_isZero : Code := Try.f127.body.getD .skip
noncomputable def E_impl_isZero : Env := ⟨lay, [], [], []⟩
theorem cons_impl_isZero : ConsOk Try.prog E_impl_isZero.cons := consOk_nil
theorem loops_impl_isZero : loopsIn code_impl_isZero = [] := by kernel_rfl
theorem m_impl_isZero : Meets Try.prog 127 c_impl_isZero := meets_of (E := E_impl_isZero) (code := code_impl_isZero) mix lay_ok cons_impl_isZero Try.func127 (by kernel_rfl) sg_impl_isZero (by kernel_rfl) (fun y => y.1) c_impl_isZero.out (fun _ => rfl) c_impl_isZero.run (fun x => by kernel_rfl) (by kernel_rfl) (loops_mem loops_impl_isZero (trivial))

noncomputable def sg_impl_StationOk : Sig := ⟨[(true, [.d (.str), .d (.bool), .d (.sl .int), .d (.sl .int), .d (.bool), .d (.sl .int), .d (.sl .int), .d (.bool)]), (false, [.d (.bool)])], [], false, [(false, [.d (.bool)])], []⟩
noncomputable def c_impl_StationOk : Con := ⟨sg_impl_StationOk, Bool, fun x => M_impl_StationOk (⟨x.1, (⟨x.2.1, x.2.2.1, x.2.2.2.1⟩ : Rt), (⟨x.2.2.2.2.1, x.2.2.2.2.2.1, x.2.2.2.2.2.2.1⟩ : Rt), x.2.2.2.2.2.2.2.1⟩ : Sta) x.2.2.2.2.2.2.2.2.1, fun r => (r, ())⟩
noncomputable def code_impl_StationOk : Code := Try.f56.body.getD .skip
noncomputable def E_impl_StationOk : Env := ⟨lay, [(126, c_impl_IsName), (82, c_impl_RatOk), (127, c_impl_isZero)], [], []⟩
theorem cons_impl_StationOk : ConsOk Try.prog E_impl_StationOk.cons := consOk_cons m_impl_IsName (callable_of Try.func126 (by kernel_rfl)) (consOk_cons m_impl_RatOk (callable_of Try.func82 (by kernel_rfl)) (consOk_cons m_impl_isZero (callable_of Try.func127 (by kernel_rfl)) (consOk_nil)))
theorem loops_impl_StationOk : loopsIn code_impl_StationOk = [] := by kernel_rfl
theorem m_impl_StationOk : Meets Try.prog 56 c_impl_StationOk := meets_of (E := E_impl_StationOk) (code := code_impl_StationOk) mix lay_ok cons_impl_StationOk Try.func56 (by kernel_rfl) sg_impl_StationOk (by kernel_rfl) (fun y => y.1) c_impl_StationOk.out (fun _ => rfl) c_impl_StationOk.run (fun x => by kernel_rfl) (by kernel_rfl) (loops_mem loops_impl_StationOk (trivial))

noncomputable def sg_impl_FindStation : Sig := ⟨[(true, [.d (.bool), .d (.sl .sta)]), (false, [.d (.str)])], [], false, [(false, [.d (.int .i64)])], []⟩
noncomputable def c_impl_FindStation : Con := ⟨sg_impl_FindStation, Int, fun x => M_impl_FindStation (⟨x.1, x.2.1⟩ : Net) x.2.2.1, fun r => (r, ())⟩
noncomputable def code_impl_FindStation : Code := Try.f55.body.getD .skip
noncomputable def body_impl_FindStation_0 : Code := (loopsIn code_impl_FindStation).getD 0 .skip
noncomputable def D_impl_FindStation_0 : LoopD := ⟨⟨mkSlots [(1, false, [.d (.str)]), (8, false, [.d (.sl .sta)]), (9, false, [.d (.int .i64)]), (10, false, [.d (.int .i64)])] 21 0, []⟩, [], [(.ret, ⟨mkSlots [(4, false, [.d (.int .i64)])] 21 0, []⟩, []), (.exit 0, ⟨mkSlots [] 21 0, []⟩, [])]⟩
noncomputable def S_impl_FindStation_0_w (x : Tys D_impl_FindStation_0.head.ks) : Option (OutT D_impl_FindStation_0.outs) := @whileO (ByteArray × (List Sta) × Int × Int × Unit) ((Int × Unit) ⊕ (Unit)) S_impl_FindStation_0 x
noncomputable def E_impl_FindStation : Env := ⟨lay, [], [(2, mkLM D_impl_FindStation_0 S_impl_FindStation_0_w)], []⟩
theorem cons_impl_FindStation : ConsOk Try.prog E_impl_FindStation.cons := consOk_nil
theorem S_impl_FindStation_0_ok (x : Tys D_impl_FindStation_0.head.ks) : stepL E_impl_FindStation D_impl_FindStation_0 body_impl_FindStation_0 x = S_impl_FindStation_0 x := by kernel_rfl
theorem loops_impl_FindStation_0 : loopsIn body_impl_FindStation_0 = [] := by kernel_rfl
theorem l_impl_FindStation_0 : LoopOk Try.prog (mkLM D_impl_FindStation_0 S_impl_FindStation_0_w) body_impl_FindStation_0 := loop_ok2 mix lay_ok cons_impl_FindStation (by kernel_rfl) (loops_mem loops_impl_FindStation_0 (trivial)) S_impl_FindStation_0_ok fun _ _ h => h
theorem loops_impl_FindStation : loopsIn code_impl_FindStation = [body_impl_FindStation_0] := by kernel_rfl
theorem m_impl_FindStation : Meets Try.prog 55 c_impl_FindStation := meets_of (E := E_impl_FindStation) (code := code_impl_FindStation) mix lay_ok cons_impl_FindStation Try.func55 (by kernel_rfl) sg_impl_FindStation (by kernel_rfl) (fun y => y.1) c_impl_FindStation.out (fun _ => rfl) c_impl_FindStation.run (fun x => by kernel_rfl) (by kernel_rfl) (loops_mem loops_impl_FindStation (⟨⟨_, by kernel_rfl, l_impl_FindStation_0⟩, trivial⟩))

noncomputable def sg_impl_NetworkOk : Sig := ⟨[(true, [.d (.bool), .d (.sl .sta)])], [], false, [(false, [.d (.bool)])], []⟩
noncomputable def c_impl_NetworkOk : Con := ⟨sg_impl_NetworkOk, Bool, fun x => M_impl_NetworkOk (⟨x.1, x.2.1⟩ : Net), fun r => (r, ())⟩
noncomputable def code_impl_NetworkOk : Code := Try.f51.body.getD .skip
noncomputable def body_impl_NetworkOk_0 : Code := (loopsIn code_impl_NetworkOk).getD 0 .skip
noncomputable def D_impl_NetworkOk_0 : LoopD := ⟨⟨mkSlots [(1, false, [.lp 64 0]), (10, false, [.d (.sl .sta)]), (11, false, [.d (.int .i64)]), (12, false, [.d (.int .i64)])] 31 0, [(64, .box [.d (.bool), .d (.sl .sta)])]⟩, [], [(.ret, ⟨mkSlots [(2, false, [.d (.bool)])] 31 0, []⟩, []), (.exit 0, ⟨mkSlots [] 31 0, []⟩, [])]⟩
noncomputable def S_impl_NetworkOk_0_w (x : Tys D_impl_NetworkOk_0.head.ks) : Option (OutT D_impl_NetworkOk_0.outs) := @whileO ((List Sta) × Int × Int × Bool × (List Sta) × Unit) ((Bool × Unit) ⊕ (Unit)) S_impl_NetworkOk_0 x
noncomputable def E_impl_NetworkOk : Env := ⟨lay, [(56, c_impl_StationOk), (55, c_impl_FindStation)], [(4, mkLM D_impl_NetworkOk_0 S_impl_NetworkOk_0_w)], []⟩
theorem cons_impl_NetworkOk : ConsOk Try.prog E_impl_NetworkOk.cons := consOk_cons m_impl_StationOk (callable_of Try.func56 (by kernel_rfl)) (consOk_cons m_impl_FindStation (callable_of Try.func55 (by kernel_rfl)) (consOk_nil))
theorem S_impl_NetworkOk_0_ok (x : Tys D_impl_NetworkOk_0.head.ks) : stepL E_impl_NetworkOk D_impl_NetworkOk_0 body_impl_NetworkOk_0 x = S_impl_NetworkOk_0 x := by kernel_rfl
theorem loops_impl_NetworkOk_0 : loopsIn body_impl_NetworkOk_0 = [] := by kernel_rfl
theorem l_impl_NetworkOk_0 : LoopOk Try.prog (mkLM D_impl_NetworkOk_0 S_impl_NetworkOk_0_w) body_impl_NetworkOk_0 := loop_ok2 mix lay_ok cons_impl_NetworkOk (by kernel_rfl) (loops_mem loops_impl_NetworkOk_0 (trivial)) S_impl_NetworkOk_0_ok fun _ _ h => h
theorem loops_impl_NetworkOk : loopsIn code_impl_NetworkOk = [body_impl_NetworkOk_0] := by kernel_rfl
theorem m_impl_NetworkOk : Meets Try.prog 51 c_impl_NetworkOk := meets_of (E := E_impl_NetworkOk) (code := code_impl_NetworkOk) mix lay_ok cons_impl_NetworkOk Try.func51 (by kernel_rfl) sg_impl_NetworkOk (by kernel_rfl) (fun y => y.1) c_impl_NetworkOk.out (fun _ => rfl) c_impl_NetworkOk.run (fun x => by kernel_rfl) (by kernel_rfl) (loops_mem loops_impl_NetworkOk (⟨⟨_, by kernel_rfl, l_impl_NetworkOk_0⟩, trivial⟩))

noncomputable def sg_impl_IsBetween : Sig := ⟨[(false, [.d (.int .i64)])], [], false, [(false, [.d (.bool)])], []⟩
noncomputable def c_impl_IsBetween : Con := ⟨sg_impl_IsBetween, Bool, fun x => M_impl_IsBetween x.1, fun r => (r, ())⟩
noncomputable def code_impl_IsBetween : Code := Try.f178.body.getD .skip
noncomputable def E_impl_IsBetween : Env := ⟨lay, [], [], []⟩
theorem cons_impl_IsBetween : ConsOk Try.prog E_impl_IsBetween.cons := consOk_nil
theorem loops_impl_IsBetween : loopsIn code_impl_IsBetween = [] := by kernel_rfl
theorem m_impl_IsBetween : Meets Try.prog 178 c_impl_IsBetween := meets_of (E := E_impl_IsBetween) (code := code_impl_IsBetween) mix lay_ok cons_impl_IsBetween Try.func178 (by kernel_rfl) sg_impl_IsBetween (by kernel_rfl) (fun y => y.1) c_impl_IsBetween.out (fun _ => rfl) c_impl_IsBetween.run (fun x => by kernel_rfl) (by kernel_rfl) (loops_mem loops_impl_IsBetween (trivial))

noncomputable def sg_impl_sign : Sig := ⟨[(true, [.d (.bool), .d (.sl .int), .d (.sl .int)])], [], false, [(false, [.d (.int .i64)])], []⟩
noncomputable def c_impl_sign : Con := ⟨sg_impl_sign, Int, fun x => M_impl_sign (⟨x.1, x.2.1, x.2.2.1⟩ : Rt), fun r => (r, ())⟩
noncomputable def code_impl_sign : Code := Try.f142.body.getD .skip
noncomputable def E_impl_sign : Env := ⟨lay, [], [], []⟩
theorem cons_impl_sign : ConsOk Try.prog E_impl_sign.cons := consOk_nil
theorem loops_impl_sign : loopsIn code_impl_sign = [] := by kernel_rfl
theorem m_impl_sign : Meets Try.prog 142 c_impl_sign := meets_of (E := E_impl_sign) (code := code_impl_sign) mix lay_ok cons_impl_sign Try.func142 (by kernel_rfl) sg_impl_sign (by kernel_rfl) (fun y => y.1) c_impl_sign.out (fun _ => rfl) c_impl_sign.run (fun x => by kernel_rfl) (by kernel_rfl) (loops_mem loops_impl_sign (trivial))

noncomputable def sg_impl_observationFits : Sig := ⟨[(true, [.d (.bool), .d (.sl .sta)]), (true, [.d (.int .i64), .d (.int .i64), .d (.int .i64), .d (.bool), .d (.sl .int), .d (.sl .int), .d (.bool), .d (.sl .int), .d (.sl .int)])], [], false, [(false, [.d (.bool)])], []⟩
noncomputable def c_impl_observationFits : Con := ⟨sg_impl_observationFits, Bool, fun x => M_impl_observationFits (⟨x.1, x.2.1⟩ : Net) (⟨x.2.2.1, x.2.2.2.1, x.2.2.2.2.1, (⟨x.2.2.2.2.2.1, x.2.2.2.2.2.2.1, x.2.2.2.2.2.2.2.1⟩ : Rt), (⟨x.2.2.2.2.2.2.2.2.1, x.2.2.2.2.2.2.2.2.2.1, x.2.2.2.2.2.2.2.2.2.2.1⟩ : Rt)⟩ : Obs), fun r => (r, ())⟩
noncomputable def code_impl_observationFits : Code := Try.f105.body.getD .skip
noncomputable def E_impl_observationFits : Env := ⟨lay, [(178, c_impl_IsBetween), (82, c_impl_RatOk), (142, c_impl_sign)], [], []⟩
theorem cons_impl_observationFits : ConsOk Try.prog E_impl_observationFits.cons := consOk_cons m_impl_IsBetween (callable_of Try.func178 (by kernel_rfl)) (consOk_cons m_impl_RatOk (callable_of Try.func82 (by kernel_rfl)) (consOk_cons m_impl_sign (callable_of Try.func142 (by kernel_rfl)) (consOk_nil)))
theorem loops_impl_observationFits : loopsIn code_impl_observationFits = [] := by kernel_rfl
theorem m_impl_observationFits : Meets Try.prog 105 c_impl_observationFits := meets_of (E := E_impl_observationFits) (code := code_impl_observationFits) mix lay_ok cons_impl_observationFits Try.func105 (by kernel_rfl) sg_impl_observationFits (by kernel_rfl) (fun y => y.1) c_impl_observationFits.out (fun _ => rfl) c_impl_observationFits.run (fun x => by kernel_rfl) (by kernel_rfl) (loops_mem loops_impl_observationFits (trivial))

noncomputable def sg_impl_ObservationsOk : Sig := ⟨[(true, [.d (.bool), .d (.sl .sta)]), (false, [.d (.sl .obs)])], [], false, [(false, [.d (.bool)])], []⟩
noncomputable def c_impl_ObservationsOk : Con := ⟨sg_impl_ObservationsOk, Bool, fun x => M_impl_ObservationsOk (⟨x.1, x.2.1⟩ : Net) x.2.2.1, fun r => (r, ())⟩
noncomputable def code_impl_ObservationsOk : Code := Try.f31.body.getD .skip
noncomputable def body_impl_ObservationsOk_0 : Code := (loopsIn code_impl_ObservationsOk).getD 0 .skip
noncomputable def D_impl_ObservationsOk_0 : LoopD := ⟨⟨mkSlots [(2, false, [.lp 128 0]), (15, false, [.d (.sl .obs)]), (16, false, [.d (.int .i64)]), (17, false, [.d (.int .i64)])] 26 0, [(128, .box [.d (.bool), .d (.sl .sta)])]⟩, [], [(.ret, ⟨mkSlots [(4, false, [.d (.bool)])] 26 0, []⟩, []), (.exit 0, ⟨mkSlots [] 26 0, []⟩, [])]⟩
noncomputable def S_impl_ObservationsOk_0_w (x : Tys D_impl_ObservationsOk_0.head.ks) : Option (OutT D_impl_ObservationsOk_0.outs) := @whileO ((List Obs) × Int × Int × Bool × (List Sta) × Unit) ((Bool × Unit) ⊕ (Unit)) S_impl_ObservationsOk_0 x
noncomputable def E_impl_ObservationsOk : Env := ⟨lay, [(51, c_impl_NetworkOk), (105, c_impl_observationFits)], [(4, mkLM D_impl_ObservationsOk_0 S_impl_ObservationsOk_0_w)], []⟩
theorem cons_impl_ObservationsOk : ConsOk Try.prog E_impl_ObservationsOk.cons := consOk_cons m_impl_NetworkOk (callable_of Try.func51 (by kernel_rfl)) (consOk_cons m_impl_observationFits (callable_of Try.func105 (by kernel_rfl)) (consOk_nil))
theorem S_impl_ObservationsOk_0_ok (x : Tys D_impl_ObservationsOk_0.head.ks) : stepL E_impl_ObservationsOk D_impl_ObservationsOk_0 body_impl_ObservationsOk_0 x = S_impl_ObservationsOk_0 x := by kernel_rfl
theorem loops_impl_ObservationsOk_0 : loopsIn body_impl_ObservationsOk_0 = [] := by kernel_rfl
theorem l_impl_ObservationsOk_0 : LoopOk Try.prog (mkLM D_impl_ObservationsOk_0 S_impl_ObservationsOk_0_w) body_impl_ObservationsOk_0 := loop_ok2 mix lay_ok cons_impl_ObservationsOk (by kernel_rfl) (loops_mem loops_impl_ObservationsOk_0 (trivial)) S_impl_ObservationsOk_0_ok fun _ _ h => h
theorem loops_impl_ObservationsOk : loopsIn code_impl_ObservationsOk = [body_impl_ObservationsOk_0] := by kernel_rfl
theorem m_impl_ObservationsOk : Meets Try.prog 31 c_impl_ObservationsOk := meets_of (E := E_impl_ObservationsOk) (code := code_impl_ObservationsOk) mix lay_ok cons_impl_ObservationsOk Try.func31 (by kernel_rfl) sg_impl_ObservationsOk (by kernel_rfl) (fun y => y.1) c_impl_ObservationsOk.out (fun _ => rfl) c_impl_ObservationsOk.run (fun x => by kernel_rfl) (by kernel_rfl) (loops_mem loops_impl_ObservationsOk (⟨⟨_, by kernel_rfl, l_impl_ObservationsOk_0⟩, trivial⟩))

noncomputable def sg_impl_BookOk : Sig := ⟨[(true, [.d (.bool), .d (.sl .sta), .d (.sl .obs)])], [], false, [(false, [.d (.bool)])], []⟩
noncomputable def c_impl_BookOk : Con := ⟨sg_impl_BookOk, Bool, fun x => M_impl_BookOk (⟨x.1, x.2.1, x.2.2.1⟩ : Bk), fun r => (r, ())⟩
noncomputable def code_impl_BookOk : Code := Try.f44.body.getD .skip
noncomputable def E_impl_BookOk : Env := ⟨lay, [(31, c_impl_ObservationsOk)], [], []⟩
theorem cons_impl_BookOk : ConsOk Try.prog E_impl_BookOk.cons := consOk_cons m_impl_ObservationsOk (callable_of Try.func31 (by kernel_rfl)) (consOk_nil)
theorem loops_impl_BookOk : loopsIn code_impl_BookOk = [] := by kernel_rfl
theorem m_impl_BookOk : Meets Try.prog 44 c_impl_BookOk := meets_of (E := E_impl_BookOk) (code := code_impl_BookOk) mix lay_ok cons_impl_BookOk Try.func44 (by kernel_rfl) sg_impl_BookOk (by kernel_rfl) (fun y => y.1) c_impl_BookOk.out (fun _ => rfl) c_impl_BookOk.run (fun x => by kernel_rfl) (by kernel_rfl) (loops_mem loops_impl_BookOk (trivial))

noncomputable def sg_laws_eqIntS : Sig := ⟨[(false, [.d (.sl .int)]), (false, [.d (.sl .int)])], [], false, [(false, [.d (.bool)])], []⟩
noncomputable def c_laws_eqIntS : Con := ⟨sg_laws_eqIntS, Bool, fun x => M_laws_eqIntS x.1 x.2.1, fun r => (r, ())⟩
noncomputable def code_laws_eqIntS : Code := Try.f90.body.getD .skip
noncomputable def body_laws_eqIntS_0 : Code := (loopsIn code_laws_eqIntS).getD 0 .skip
noncomputable def D_laws_eqIntS_0 : LoopD := ⟨⟨mkSlots [(0, false, [.d (.sl .int)]), (1, false, [.d (.sl .int)]), (5, false, [.d (.int .i64)])] 26 0, []⟩, [], [(.ret, ⟨mkSlots [(4, false, [.d (.bool)])] 26 0, []⟩, []), (.exit 0, ⟨mkSlots [] 26 0, []⟩, [])]⟩
noncomputable def S_laws_eqIntS_0_w (x : Tys D_laws_eqIntS_0.head.ks) : Option (OutT D_laws_eqIntS_0.outs) := @whileO ((List Int) × (List Int) × Int × Unit) ((Bool × Unit) ⊕ (Unit)) S_laws_eqIntS_0 x
noncomputable def E_laws_eqIntS : Env := ⟨lay, [], [(4, mkLM D_laws_eqIntS_0 S_laws_eqIntS_0_w)], [(6, [(0, []), (1, []), (2, []), (3, []), (4, []), (5, []), (6, []), (7, []), (8, [])])]⟩
theorem cons_laws_eqIntS : ConsOk Try.prog E_laws_eqIntS.cons := consOk_nil
theorem S_laws_eqIntS_0_ok (x : Tys D_laws_eqIntS_0.head.ks) : stepL E_laws_eqIntS D_laws_eqIntS_0 body_laws_eqIntS_0 x = S_laws_eqIntS_0 x := by kernel_rfl
theorem loops_laws_eqIntS_0 : loopsIn body_laws_eqIntS_0 = [] := by kernel_rfl
theorem l_laws_eqIntS_0 : LoopOk Try.prog (mkLM D_laws_eqIntS_0 S_laws_eqIntS_0_w) body_laws_eqIntS_0 := loop_ok2 mix lay_ok cons_laws_eqIntS (by kernel_rfl) (loops_mem loops_laws_eqIntS_0 (trivial)) S_laws_eqIntS_0_ok fun _ _ h => h
theorem loops_laws_eqIntS : loopsIn code_laws_eqIntS = [body_laws_eqIntS_0] := by kernel_rfl
theorem m_laws_eqIntS : Meets Try.prog 90 c_laws_eqIntS := meets_of (E := E_laws_eqIntS) (code := code_laws_eqIntS) mix lay_ok cons_laws_eqIntS Try.func90 (by kernel_rfl) sg_laws_eqIntS (by kernel_rfl) (fun y => y.1) c_laws_eqIntS.out (fun _ => rfl) c_laws_eqIntS.run (fun x => by kernel_rfl) (by kernel_rfl) (loops_mem loops_laws_eqIntS (⟨⟨_, by kernel_rfl, l_laws_eqIntS_0⟩, trivial⟩))

noncomputable def sg_laws_eqBigInt : Sig := ⟨[(true, [.d (.bool), .d (.sl .int)]), (true, [.d (.bool), .d (.sl .int)])], [], false, [(false, [.d (.bool)])], []⟩
noncomputable def c_laws_eqBigInt : Con := ⟨sg_laws_eqBigInt, Bool, fun x => M_laws_eqBigInt (⟨x.1, x.2.1⟩ : Bg) (⟨x.2.2.1, x.2.2.2.1⟩ : Bg), fun r => (r, ())⟩
noncomputable def code_laws_eqBigInt : Code := Try.f89.body.getD .skip
noncomputable def E_laws_eqBigInt : Env := ⟨lay, [(90, c_laws_eqIntS)], [], []⟩
theorem cons_laws_eqBigInt : ConsOk Try.prog E_laws_eqBigInt.cons := consOk_cons m_laws_eqIntS (callable_of Try.func90 (by kernel_rfl)) (consOk_nil)
theorem loops_laws_eqBigInt : loopsIn code_laws_eqBigInt = [] := by kernel_rfl
theorem m_laws_eqBigInt : Meets Try.prog 89 c_laws_eqBigInt := meets_of (E := E_laws_eqBigInt) (code := code_laws_eqBigInt) mix lay_ok cons_laws_eqBigInt Try.func89 (by kernel_rfl) sg_laws_eqBigInt (by kernel_rfl) (fun y => y.1) c_laws_eqBigInt.out (fun _ => rfl) c_laws_eqBigInt.run (fun x => by kernel_rfl) (by kernel_rfl) (loops_mem loops_laws_eqBigInt (trivial))

noncomputable def sg_laws_eqRat : Sig := ⟨[(true, [.d (.bool), .d (.sl .int), .d (.sl .int)]), (true, [.d (.bool), .d (.sl .int), .d (.sl .int)])], [], false, [(false, [.d (.bool)])], []⟩
noncomputable def c_laws_eqRat : Con := ⟨sg_laws_eqRat, Bool, fun x => M_laws_eqRat (⟨x.1, x.2.1, x.2.2.1⟩ : Rt) (⟨x.2.2.2.1, x.2.2.2.2.1, x.2.2.2.2.2.1⟩ : Rt), fun r => (r, ())⟩
noncomputable def code_laws_eqRat : Code := Try.f19.body.getD .skip
noncomputable def E_laws_eqRat : Env := ⟨lay, [(89, c_laws_eqBigInt), (90, c_laws_eqIntS)], [], []⟩
theorem cons_laws_eqRat : ConsOk Try.prog E_laws_eqRat.cons := consOk_cons m_laws_eqBigInt (callable_of Try.func89 (by kernel_rfl)) (consOk_cons m_laws_eqIntS (callable_of Try.func90 (by kernel_rfl)) (consOk_nil))
theorem loops_laws_eqRat : loopsIn code_laws_eqRat = [] := by kernel_rfl
theorem m_laws_eqRat : Meets Try.prog 19 c_laws_eqRat := meets_of (E := E_laws_eqRat) (code := code_laws_eqRat) mix lay_ok cons_laws_eqRat Try.func19 (by kernel_rfl) sg_laws_eqRat (by kernel_rfl) (fun y => y.1) c_laws_eqRat.out (fun _ => rfl) c_laws_eqRat.run (fun x => by kernel_rfl) (by kernel_rfl) (loops_mem loops_laws_eqRat (trivial))

noncomputable def sg_laws_eqStation : Sig := ⟨[(true, [.d (.str), .d (.bool), .d (.sl .int), .d (.sl .int), .d (.bool), .d (.sl .int), .d (.sl .int), .d (.bool)]), (true, [.d (.str), .d (.bool), .d (.sl .int), .d (.sl .int), .d (.bool), .d (.sl .int), .d (.sl .int), .d (.bool)])], [], false, [(false, [.d (.bool)])], []⟩
noncomputable def c_laws_eqStation : Con := ⟨sg_laws_eqStation, Bool, fun x => M_laws_eqStation (⟨x.1, (⟨x.2.1, x.2.2.1, x.2.2.2.1⟩ : Rt), (⟨x.2.2.2.2.1, x.2.2.2.2.2.1, x.2.2.2.2.2.2.1⟩ : Rt), x.2.2.2.2.2.2.2.1⟩ : Sta) (⟨x.2.2.2.2.2.2.2.2.1, (⟨x.2.2.2.2.2.2.2.2.2.1, x.2.2.2.2.2.2.2.2.2.2.1, x.2.2.2.2.2.2.2.2.2.2.2.1⟩ : Rt), (⟨x.2.2.2.2.2.2.2.2.2.2.2.2.1, x.2.2.2.2.2.2.2.2.2.2.2.2.2.1, x.2.2.2.2.2.2.2.2.2.2.2.2.2.2.1⟩ : Rt), x.2.2.2.2.2.2.2.2.2.2.2.2.2.2.2.1⟩ : Sta), fun r => (r, ())⟩
noncomputable def code_laws_eqStation : Code := Try.f179.body.getD .skip
noncomputable def E_laws_eqStation : Env := ⟨lay, [(19, c_laws_eqRat)], [], []⟩
theorem cons_laws_eqStation : ConsOk Try.prog E_laws_eqStation.cons := consOk_cons m_laws_eqRat (callable_of Try.func19 (by kernel_rfl)) (consOk_nil)
theorem loops_laws_eqStation : loopsIn code_laws_eqStation = [] := by kernel_rfl
theorem m_laws_eqStation : Meets Try.prog 179 c_laws_eqStation := meets_of (E := E_laws_eqStation) (code := code_laws_eqStation) mix lay_ok cons_laws_eqStation Try.func179 (by kernel_rfl) sg_laws_eqStation (by kernel_rfl) (fun y => y.1) c_laws_eqStation.out (fun _ => rfl) c_laws_eqStation.run (fun x => by kernel_rfl) (by kernel_rfl) (loops_mem loops_laws_eqStation (trivial))

noncomputable def sg_laws_eqStationS : Sig := ⟨[(false, [.d (.sl .sta)]), (false, [.d (.sl .sta)])], [], false, [(false, [.d (.bool)])], []⟩
noncomputable def c_laws_eqStationS : Con := ⟨sg_laws_eqStationS, Bool, fun x => M_laws_eqStationS x.1 x.2.1, fun r => (r, ())⟩
noncomputable def code_laws_eqStationS : Code := Try.f106.body.getD .skip
noncomputable def body_laws_eqStationS_0 : Code := (loopsIn code_laws_eqStationS).getD 0 .skip
noncomputable def D_laws_eqStationS_0 : LoopD := ⟨⟨mkSlots [(0, false, [.d (.sl .sta)]), (1, false, [.d (.sl .sta)]), (5, false, [.d (.int .i64)])] 27 0, []⟩, [], [(.ret, ⟨mkSlots [(4, false, [.d (.bool)])] 27 0, []⟩, []), (.exit 0, ⟨mkSlots [] 27 0, []⟩, [])]⟩
noncomputable def S_laws_eqStationS_0_w (x : Tys D_laws_eqStationS_0.head.ks) : Option (OutT D_laws_eqStationS_0.outs) := @whileO ((List Sta) × (List Sta) × Int × Unit) ((Bool × Unit) ⊕ (Unit)) S_laws_eqStationS_0 x
noncomputable def E_laws_eqStationS : Env := ⟨lay, [(179, c_laws_eqStation)], [(4, mkLM D_laws_eqStationS_0 S_laws_eqStationS_0_w)], [(6, [(0, []), (1, []), (2, []), (3, []), (4, []), (5, []), (6, []), (7, []), (8, [3, 7, 2, 6, 0, 1, 4, 5]), (9, [])])]⟩
theorem cons_laws_eqStationS : ConsOk Try.prog E_laws_eqStationS.cons := consOk_cons m_laws_eqStation (callable_of Try.func179 (by kernel_rfl)) (consOk_nil)
theorem S_laws_eqStationS_0_ok (x : Tys D_laws_eqStationS_0.head.ks) : stepL E_laws_eqStationS D_laws_eqStationS_0 body_laws_eqStationS_0 x = S_laws_eqStationS_0 x := by kernel_rfl
theorem loops_laws_eqStationS_0 : loopsIn body_laws_eqStationS_0 = [] := by kernel_rfl
theorem l_laws_eqStationS_0 : LoopOk Try.prog (mkLM D_laws_eqStationS_0 S_laws_eqStationS_0_w) body_laws_eqStationS_0 := loop_ok2 mix lay_ok cons_laws_eqStationS (by kernel_rfl) (loops_mem loops_laws_eqStationS_0 (trivial)) S_laws_eqStationS_0_ok fun _ _ h => h
theorem loops_laws_eqStationS : loopsIn code_laws_eqStationS = [body_laws_eqStationS_0] := by kernel_rfl
theorem m_laws_eqStationS : Meets Try.prog 106 c_laws_eqStationS := meets_of (E := E_laws_eqStationS) (code := code_laws_eqStationS) mix lay_ok cons_laws_eqStationS Try.func106 (by kernel_rfl) sg_laws_eqStationS (by kernel_rfl) (fun y => y.1) c_laws_eqStationS.out (fun _ => rfl) c_laws_eqStationS.run (fun x => by kernel_rfl) (by kernel_rfl) (loops_mem loops_laws_eqStationS (⟨⟨_, by kernel_rfl, l_laws_eqStationS_0⟩, trivial⟩))

noncomputable def sg_laws_eqNetwork : Sig := ⟨[(true, [.d (.bool), .d (.sl .sta)]), (true, [.d (.bool), .d (.sl .sta)])], [], false, [(false, [.d (.bool)])], []⟩
noncomputable def c_laws_eqNetwork : Con := ⟨sg_laws_eqNetwork, Bool, fun x => M_laws_eqNetwork (⟨x.1, x.2.1⟩ : Net) (⟨x.2.2.1, x.2.2.2.1⟩ : Net), fun r => (r, ())⟩
noncomputable def code_laws_eqNetwork : Code := Try.f32.body.getD .skip
noncomputable def E_laws_eqNetwork : Env := ⟨lay, [(106, c_laws_eqStationS)], [], []⟩
theorem cons_laws_eqNetwork : ConsOk Try.prog E_laws_eqNetwork.cons := consOk_cons m_laws_eqStationS (callable_of Try.func106 (by kernel_rfl)) (consOk_nil)
theorem loops_laws_eqNetwork : loopsIn code_laws_eqNetwork = [] := by kernel_rfl
theorem m_laws_eqNetwork : Meets Try.prog 32 c_laws_eqNetwork := meets_of (E := E_laws_eqNetwork) (code := code_laws_eqNetwork) mix lay_ok cons_laws_eqNetwork Try.func32 (by kernel_rfl) sg_laws_eqNetwork (by kernel_rfl) (fun y => y.1) c_laws_eqNetwork.out (fun _ => rfl) c_laws_eqNetwork.run (fun x => by kernel_rfl) (by kernel_rfl) (loops_mem loops_laws_eqNetwork (trivial))

noncomputable def sg_laws_eqObservation : Sig := ⟨[(true, [.d (.int .i64), .d (.int .i64), .d (.int .i64), .d (.bool), .d (.sl .int), .d (.sl .int), .d (.bool), .d (.sl .int), .d (.sl .int)]), (true, [.d (.int .i64), .d (.int .i64), .d (.int .i64), .d (.bool), .d (.sl .int), .d (.sl .int), .d (.bool), .d (.sl .int), .d (.sl .int)])], [], false, [(false, [.d (.bool)])], []⟩
noncomputable def c_laws_eqObservation : Con := ⟨sg_laws_eqObservation, Bool, fun x => M_laws_eqObservation (⟨x.1, x.2.1, x.2.2.1, (⟨x.2.2.2.1, x.2.2.2.2.1, x.2.2.2.2.2.1⟩ : Rt), (⟨x.2.2.2.2.2.2.1, x.2.2.2.2.2.2.2.1, x.2.2.2.2.2.2.2.2.1⟩ : Rt)⟩ : Obs) (⟨x.2.2.2.2.2.2.2.2.2.1, x.2.2.2.2.2.2.2.2.2.2.1, x.2.2.2.2.2.2.2.2.2.2.2.1, (⟨x.2.2.2.2.2.2.2.2.2.2.2.2.1, x.2.2.2.2.2.2.2.2.2.2.2.2.2.1, x.2.2.2.2.2.2.2.2.2.2.2.2.2.2.1⟩ : Rt), (⟨x.2.2.2.2.2.2.2.2.2.2.2.2.2.2.2.1, x.2.2.2.2.2.2.2.2.2.2.2.2.2.2.2.2.1, x.2.2.2.2.2.2.2.2.2.2.2.2.2.2.2.2.2.1⟩ : Rt)⟩ : Obs), fun r => (r, ())⟩
noncomputable def code_laws_eqObservation : Code := Try.f107.body.getD .skip
noncomputable def E_laws_eqObservation : Env := ⟨lay, [(19, c_laws_eqRat)], [], []⟩
theorem cons_laws_eqObservation : ConsOk Try.prog E_laws_eqObservation.cons := consOk_cons m_laws_eqRat (callable_of Try.func19 (by kernel_rfl)) (consOk_nil)
theorem loops_laws_eqObservation : loopsIn code_laws_eqObservation = [] := by kernel_rfl
theorem m_laws_eqObservation : Meets Try.prog 107 c_laws_eqObservation := meets_of (E := E_laws_eqObservation) (code := code_laws_eqObservation) mix lay_ok cons_laws_eqObservation Try.func107 (by kernel_rfl) sg_laws_eqObservation (by kernel_rfl) (fun y => y.1) c_laws_eqObservation.out (fun _ => rfl) c_laws_eqObservation.run (fun x => by kernel_rfl) (by kernel_rfl) (loops_mem loops_laws_eqObservation (trivial))

noncomputable def sg_laws_eqObservationS : Sig := ⟨[(false, [.d (.sl .obs)]), (false, [.d (.sl .obs)])], [], false, [(false, [.d (.bool)])], []⟩
noncomputable def c_laws_eqObservationS : Con := ⟨sg_laws_eqObservationS, Bool, fun x => M_laws_eqObservationS x.1 x.2.1, fun r => (r, ())⟩
noncomputable def code_laws_eqObservationS : Code := Try.f33.body.getD .skip
noncomputable def body_laws_eqObservationS_0 : Code := (loopsIn code_laws_eqObservationS).getD 0 .skip
noncomputable def D_laws_eqObservationS_0 : LoopD := ⟨⟨mkSlots [(0, false, [.d (.sl .obs)]), (1, false, [.d (.sl .obs)]), (5, false, [.d (.int .i64)])] 27 0, []⟩, [], [(.ret, ⟨mkSlots [(4, false, [.d (.bool)])] 27 0, []⟩, []), (.exit 0, ⟨mkSlots [] 27 0, []⟩, [])]⟩
noncomputable def S_laws_eqObservationS_0_w (x : Tys D_laws_eqObservationS_0.head.ks) : Option (OutT D_laws_eqObservationS_0.outs) := @whileO ((List Obs) × (List Obs) × Int × Unit) ((Bool × Unit) ⊕ (Unit)) S_laws_eqObservationS_0 x
noncomputable def E_laws_eqObservationS : Env := ⟨lay, [(107, c_laws_eqObservation)], [(4, mkLM D_laws_eqObservationS_0 S_laws_eqObservationS_0_w)], [(6, [(0, []), (1, []), (2, []), (3, []), (4, []), (5, []), (6, []), (7, []), (8, [3, 7, 2, 6, 0, 1, 4, 5]), (9, [])])]⟩
theorem cons_laws_eqObservationS : ConsOk Try.prog E_laws_eqObservationS.cons := consOk_cons m_laws_eqObservation (callable_of Try.func107 (by kernel_rfl)) (consOk_nil)
theorem S_laws_eqObservationS_0_ok (x : Tys D_laws_eqObservationS_0.head.ks) : stepL E_laws_eqObservationS D_laws_eqObservationS_0 body_laws_eqObservationS_0 x = S_laws_eqObservationS_0 x := by kernel_rfl
theorem loops_laws_eqObservationS_0 : loopsIn body_laws_eqObservationS_0 = [] := by kernel_rfl
theorem l_laws_eqObservationS_0 : LoopOk Try.prog (mkLM D_laws_eqObservationS_0 S_laws_eqObservationS_0_w) body_laws_eqObservationS_0 := loop_ok2 mix lay_ok cons_laws_eqObservationS (by kernel_rfl) (loops_mem loops_laws_eqObservationS_0 (trivial)) S_laws_eqObservationS_0_ok fun _ _ h => h
theorem loops_laws_eqObservationS : loopsIn code_laws_eqObservationS = [body_laws_eqObservationS_0] := by kernel_rfl
theorem m_laws_eqObservationS : Meets Try.prog 33 c_laws_eqObservationS := meets_of (E := E_laws_eqObservationS) (code := code_laws_eqObservationS) mix lay_ok cons_laws_eqObservationS Try.func33 (by kernel_rfl) sg_laws_eqObservationS (by kernel_rfl) (fun y => y.1) c_laws_eqObservationS.out (fun _ => rfl) c_laws_eqObservationS.run (fun x => by kernel_rfl) (by kernel_rfl) (loops_mem loops_laws_eqObservationS (⟨⟨_, by kernel_rfl, l_laws_eqObservationS_0⟩, trivial⟩))

noncomputable def sg_laws_eqBook : Sig := ⟨[(true, [.d (.bool), .d (.sl .sta), .d (.sl .obs)]), (true, [.d (.bool), .d (.sl .sta), .d (.sl .obs)])], [], false, [(false, [.d (.bool)])], []⟩
noncomputable def c_laws_eqBook : Con := ⟨sg_laws_eqBook, Bool, fun x => M_laws_eqBook (⟨x.1, x.2.1, x.2.2.1⟩ : Bk) (⟨x.2.2.2.1, x.2.2.2.2.1, x.2.2.2.2.2.1⟩ : Bk), fun r => (r, ())⟩
noncomputable def code_laws_eqBook : Code := Try.f45.body.getD .skip
noncomputable def E_laws_eqBook : Env := ⟨lay, [(32, c_laws_eqNetwork), (33, c_laws_eqObservationS)], [], []⟩
theorem cons_laws_eqBook : ConsOk Try.prog E_laws_eqBook.cons := consOk_cons m_laws_eqNetwork (callable_of Try.func32 (by kernel_rfl)) (consOk_cons m_laws_eqObservationS (callable_of Try.func33 (by kernel_rfl)) (consOk_nil))
theorem loops_laws_eqBook : loopsIn code_laws_eqBook = [] := by kernel_rfl
theorem m_laws_eqBook : Meets Try.prog 45 c_laws_eqBook := meets_of (E := E_laws_eqBook) (code := code_laws_eqBook) mix lay_ok cons_laws_eqBook Try.func45 (by kernel_rfl) sg_laws_eqBook (by kernel_rfl) (fun y => y.1) c_laws_eqBook.out (fun _ => rfl) c_laws_eqBook.run (fun x => by kernel_rfl) (by kernel_rfl) (loops_mem loops_laws_eqBook (trivial))

noncomputable def sg_laws_FnExactBookOk : Sig := ⟨[(true, [.d (.bool), .d (.sl .sta), .d (.sl .obs)])], [], false, [(false, [.d (.bool)])], []⟩
noncomputable def c_laws_FnExactBookOk : Con := ⟨sg_laws_FnExactBookOk, Bool, fun x => M_laws_FnExactBookOk (⟨x.1, x.2.1, x.2.2.1⟩ : Bk), fun r => (r, ())⟩
noncomputable def code_laws_FnExactBookOk : Code := Try.f8.body.getD .skip
noncomputable def E_laws_FnExactBookOk : Env := ⟨lay, [(41, c_laws_szBook), (43, c_laws_toBook), (42, c_spec_BookOk), (44, c_impl_BookOk), (45, c_laws_eqBook)], [], [(10, [(0, []), (1, []), (2, [1]), (3, [0, 2, 1]), (4, [])])]⟩
theorem cons_laws_FnExactBookOk : ConsOk Try.prog E_laws_FnExactBookOk.cons := consOk_cons m_laws_szBook (callable_of Try.func41 (by kernel_rfl)) (consOk_cons m_laws_toBook (callable_of Try.func43 (by kernel_rfl)) (consOk_cons m_spec_BookOk (callable_of Try.func42 (by kernel_rfl)) (consOk_cons m_impl_BookOk (callable_of Try.func44 (by kernel_rfl)) (consOk_cons m_laws_eqBook (callable_of Try.func45 (by kernel_rfl)) (consOk_nil)))))
theorem loops_laws_FnExactBookOk : loopsIn code_laws_FnExactBookOk = [] := by kernel_rfl
theorem m_laws_FnExactBookOk : Meets Try.prog 8 c_laws_FnExactBookOk := meets_of (E := E_laws_FnExactBookOk) (code := code_laws_FnExactBookOk) mix lay_ok cons_laws_FnExactBookOk Try.func8 (by kernel_rfl) sg_laws_FnExactBookOk (by kernel_rfl) (fun y => y.1) c_laws_FnExactBookOk.out (fun _ => rfl) c_laws_FnExactBookOk.run (fun x => by kernel_rfl) (by kernel_rfl) (loops_mem loops_laws_FnExactBookOk (trivial))
end Go.Proofs.Ytjdajoianejebaa.WBookOk
