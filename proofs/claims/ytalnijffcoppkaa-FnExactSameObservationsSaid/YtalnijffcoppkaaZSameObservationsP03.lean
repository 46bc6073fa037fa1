/-
  Own work: part 4 of the texts that the proof of the given statement leans on.
-/
import Derived.Test.YtalnijffcoppkaaProg
import Derived.Test.YtalnijffcoppkaaZSameObservationsP02
/-
  Own work, written by program (gen.py): the functions that the statement reaches meet their contracts.
-/
open Go Go.Di Go.Proofs
namespace Go.Proofs.Ytalnijffcoppkaa.WSameObservations
noncomputable def lay : List (TypeId × TI) := [
  (3, ⟨false, [.d (.int .i64 0)], [], none, some (.int .i64), false⟩),
  (4, ⟨false, [.d (.bool false)], [], none, some .bool, false⟩),
  (24, ⟨false, [.mt], [], some .obs, none, false⟩),
  (27, ⟨false, [.mt], [], some .obs, none, false⟩),
  (56, ⟨false, [.mt], [], some .int, none, false⟩),
  (58, ⟨true, [.d (.bool false), .mt], [(0, 1, false), (1, 1, false)], none, none, true⟩),
  (60, ⟨true, [.d (.bool false), .mt, .mt], [(0, 2, true), (2, 1, false)], none, none, true⟩),
  (62, ⟨true, [.d (.int .i64 0), .d (.int .i64 0), .d (.int .i64 0), .d (.bool false), .mt, .mt, .d (.bool false), .mt, .mt], [(0, 1, false), (1, 1, false), (2, 1, false), (3, 3, true), (6, 3, true)], none, none, true⟩),
  (64, ⟨true, [.d (.bool false), .mt], [(0, 1, false), (1, 1, false)], none, none, true⟩),
  (66, ⟨true, [.d (.bool false), .mt, .mt], [(0, 2, true), (2, 1, false)], none, none, true⟩),
  (68, ⟨true, [.d (.int .i64 0), .d (.int .i64 0), .d (.int .i64 0), .d (.bool false), .mt, .mt, .d (.bool false), .mt, .mt], [(0, 1, false), (1, 1, false), (2, 1, false), (3, 3, true), (6, 3, true)], none, none, true⟩)]
theorem lay_ok : LayOk Try.prog lay := layOk_ok (by kernel_rfl)
theorem mix : Try.prog.follows .mixedOrders = true := by kernel_rfl

noncomputable def sg_laws_szIntS : Sig := ⟨[(false, [.sl .int]), (false, [.int .i64])], false, [(false, [.data (.int .i64)])]⟩
noncomputable def c_laws_szIntS : Con := ⟨sg_laws_szIntS, Int, fun x => M_laws_szIntS x.1 x.2.1, fun r => (r, ())⟩
noncomputable def code_laws_szIntS : Code := Try.f56.body.getD .skip
noncomputable def E_laws_szIntS : Env := ⟨lay, [], [], []⟩
theorem cons_laws_szIntS : ConsOk Try.prog E_laws_szIntS.cons := consOk_nil
theorem loops_laws_szIntS : loopsIn code_laws_szIntS = [] := by kernel_rfl
theorem m_laws_szIntS : Meets Try.prog 56 c_laws_szIntS := meets_of (E := E_laws_szIntS) (code := code_laws_szIntS) mix lay_ok cons_laws_szIntS Try.func56 (by kernel_rfl) sg_laws_szIntS (by kernel_rfl) (fun y => y.1) c_laws_szIntS.out (fun _ => rfl) c_laws_szIntS.run (fun x => by kernel_rfl) (by kernel_rfl) (loops_mem loops_laws_szIntS (trivial))

noncomputable def sg_laws_szBigInt : Sig := ⟨[(true, [.bool, .sl .int]), (false, [.int .i64])], false, [(false, [.data (.int .i64)])]⟩
noncomputable def c_laws_szBigInt : Con := ⟨sg_laws_szBigInt, Int, fun x => M_laws_szBigInt (⟨x.1, x.2.1⟩ : Bg) x.2.2.1, fun r => (r, ())⟩
noncomputable def code_laws_szBigInt : Code := Try.f55.body.getD .skip
noncomputable def E_laws_szBigInt : Env := ⟨lay, [(56, c_laws_szIntS)], [], []⟩
theorem cons_laws_szBigInt : ConsOk Try.prog E_laws_szBigInt.cons := consOk_cons m_laws_szIntS (callable_of Try.func56 (by kernel_rfl)) (consOk_nil)
theorem loops_laws_szBigInt : loopsIn code_laws_szBigInt = [] := by kernel_rfl
theorem m_laws_szBigInt : Meets Try.prog 55 c_laws_szBigInt := meets_of (E := E_laws_szBigInt) (code := code_laws_szBigInt) mix lay_ok cons_laws_szBigInt Try.func55 (by kernel_rfl) sg_laws_szBigInt (by kernel_rfl) (fun y => y.1) c_laws_szBigInt.out (fun _ => rfl) c_laws_szBigInt.run (fun x => by kernel_rfl) (by kernel_rfl) (loops_mem loops_laws_szBigInt (trivial))

noncomputable def sg_laws_szRat : Sig := ⟨[(true, [.bool, .sl .int, .sl .int]), (false, [.int .i64])], false, [(false, [.data (.int .i64)])]⟩
noncomputable def c_laws_szRat : Con := ⟨sg_laws_szRat, Int, fun x => M_laws_szRat (⟨x.1, x.2.1, x.2.2.1⟩ : Rt) x.2.2.2.1, fun r => (r, ())⟩
noncomputable def code_laws_szRat : Code := Try.f46.body.getD .skip
noncomputable def E_laws_szRat : Env := ⟨lay, [(55, c_laws_szBigInt), (56, c_laws_szIntS)], [], []⟩
theorem cons_laws_szRat : ConsOk Try.prog E_laws_szRat.cons := consOk_cons m_laws_szBigInt (callable_of Try.func55 (by kernel_rfl)) (consOk_cons m_laws_szIntS (callable_of Try.func56 (by kernel_rfl)) (consOk_nil))
theorem loops_laws_szRat : loopsIn code_laws_szRat = [] := by kernel_rfl
theorem m_laws_szRat : Meets Try.prog 46 c_laws_szRat := meets_of (E := E_laws_szRat) (code := code_laws_szRat) mix lay_ok cons_laws_szRat Try.func46 (by kernel_rfl) sg_laws_szRat (by kernel_rfl) (fun y => y.1) c_laws_szRat.out (fun _ => rfl) c_laws_szRat.run (fun x => by kernel_rfl) (by kernel_rfl) (loops_mem loops_laws_szRat (trivial))

noncomputable def sg_laws_szObservation : Sig := ⟨[(true, [.int .i64, .int .i64, .int .i64, .bool, .sl .int, .sl .int, .bool, .sl .int, .sl .int]), (false, [.int .i64])], false, [(false, [.data (.int .i64)])]⟩
noncomputable def c_laws_szObservation : Con := ⟨sg_laws_szObservation, Int, fun x => M_laws_szObservation (⟨x.1, x.2.1, x.2.2.1, (⟨x.2.2.2.1, x.2.2.2.2.1, x.2.2.2.2.2.1⟩ : Rt), (⟨x.2.2.2.2.2.2.1, x.2.2.2.2.2.2.2.1, x.2.2.2.2.2.2.2.2.1⟩ : Rt)⟩ : Obs) x.2.2.2.2.2.2.2.2.2.1, fun r => (r, ())⟩
noncomputable def code_laws_szObservation : Code := Try.f31.body.getD .skip
noncomputable def E_laws_szObservation : Env := ⟨lay, [(46, c_laws_szRat)], [], []⟩
theorem cons_laws_szObservation : ConsOk Try.prog E_laws_szObservation.cons := consOk_cons m_laws_szRat (callable_of Try.func46 (by kernel_rfl)) (consOk_nil)
theorem loops_laws_szObservation : loopsIn code_laws_szObservation = [] := by kernel_rfl
theorem m_laws_szObservation : Meets Try.prog 31 c_laws_szObservation := meets_of (E := E_laws_szObservation) (code := code_laws_szObservation) mix lay_ok cons_laws_szObservation Try.func31 (by kernel_rfl) sg_laws_szObservation (by kernel_rfl) (fun y => y.1) c_laws_szObservation.out (fun _ => rfl) c_laws_szObservation.run (fun x => by kernel_rfl) (by kernel_rfl) (loops_mem loops_laws_szObservation (trivial))

noncomputable def sg_laws_szObservationS : Sig := ⟨[(false, [.sl .obs]), (false, [.int .i64])], false, [(false, [.data (.int .i64)])]⟩
noncomputable def c_laws_szObservationS : Con := ⟨sg_laws_szObservationS, Int, fun x => M_laws_szObservationS x.1 x.2.1, fun r => (r, ())⟩
noncomputable def code_laws_szObservationS : Code := Try.f13.body.getD .skip
noncomputable def body_laws_szObservationS_0 : Code := (loopsIn code_laws_szObservationS).getD 0 .skip
noncomputable def D_laws_szObservationS_0 : LoopD := ⟨⟨mkSlots [(0, false, [.d (.sl .obs)]), (1, false, [.d (.int .i64)]), (5, false, [.d (.int .i64)])] 27 0, []⟩, [], [(.ret, ⟨mkSlots [(4, false, [.d (.int .i64)])] 27 0, []⟩, []), (.exit 0, ⟨mkSlots [(1, false, [.d (.int .i64)])] 27 0, []⟩, [])]⟩
noncomputable def S_laws_szObservationS_0_w (x : Tys D_laws_szObservationS_0.head.ks) : Option (OutT D_laws_szObservationS_0.outs) := @whileO ((List Obs) × Int × Int × Unit) ((Int × Unit) ⊕ (Int × Unit)) S_laws_szObservationS_0 x
noncomputable def E_laws_szObservationS : Env := ⟨lay, [(31, c_laws_szObservation)], [(5, mkLM D_laws_szObservationS_0 S_laws_szObservationS_0_w)], []⟩
theorem cons_laws_szObservationS : ConsOk Try.prog E_laws_szObservationS.cons := consOk_cons m_laws_szObservation (callable_of Try.func31 (by kernel_rfl)) (consOk_nil)
theorem S_laws_szObservationS_0_ok (x : Tys D_laws_szObservationS_0.head.ks) : stepL E_laws_szObservationS D_laws_szObservationS_0 body_laws_szObservationS_0 x = S_laws_szObservationS_0 x := by kernel_rfl
theorem loops_laws_szObservationS_0 : loopsIn body_laws_szObservationS_0 = [] := by kernel_rfl
theorem l_laws_szObservationS_0 : LoopOk Try.prog (mkLM D_laws_szObservationS_0 S_laws_szObservationS_0_w) body_laws_szObservationS_0 := loop_ok2 mix lay_ok cons_laws_szObservationS (by kernel_rfl) (loops_mem loops_laws_szObservationS_0 (trivial)) S_laws_szObservationS_0_ok fun _ _ h => h
theorem loops_laws_szObservationS : loopsIn code_laws_szObservationS = [body_laws_szObservationS_0] := by kernel_rfl
theorem m_laws_szObservationS : Meets Try.prog 13 c_laws_szObservationS := meets_of (E := E_laws_szObservationS) (code := code_laws_szObservationS) mix lay_ok cons_laws_szObservationS Try.func13 (by kernel_rfl) sg_laws_szObservationS (by kernel_rfl) (fun y => y.1) c_laws_szObservationS.out (fun _ => rfl) c_laws_szObservationS.run (fun x => by kernel_rfl) (by kernel_rfl) (loops_mem loops_laws_szObservationS (⟨⟨_, by kernel_rfl, l_laws_szObservationS_0⟩, trivial⟩))

noncomputable def sg_laws_toIntS : Sig := ⟨[(false, [.sl .int])], false, [(false, [.fresh .int])]⟩
noncomputable def c_laws_toIntS : Con := ⟨sg_laws_toIntS, List Int, fun x => M_laws_toIntS x.1, fun r => (r, ())⟩
noncomputable def code_laws_toIntS : Code := Try.f58.body.getD .skip
noncomputable def body_laws_toIntS_0 : Code := (loopsIn code_laws_toIntS).getD 0 .skip
noncomputable def D_laws_toIntS_0 : LoopD := ⟨⟨mkSlots [(0, false, [.d (.sl .int)]), (3, false, [.own 736]), (4, false, [.d (.int .i64)])] 22 0, [(736, .arr false .int)]⟩, [], [(.exit 0, ⟨mkSlots [(3, false, [.own 736])] 22 0, [(736, .arr false .int)]⟩, [])]⟩
noncomputable def S_laws_toIntS_0_w (x : Tys D_laws_toIntS_0.head.ks) : Option (OutT D_laws_toIntS_0.outs) := @whileO ((List Int) × Int × (List Int) × Unit) ((List Int) × Unit) S_laws_toIntS_0 x
noncomputable def E_laws_toIntS : Env := ⟨lay, [], [(3, mkLM D_laws_toIntS_0 S_laws_toIntS_0_w)], []⟩
theorem cons_laws_toIntS : ConsOk Try.prog E_laws_toIntS.cons := consOk_nil
theorem S_laws_toIntS_0_ok (x : Tys D_laws_toIntS_0.head.ks) : stepL E_laws_toIntS D_laws_toIntS_0 body_laws_toIntS_0 x = S_laws_toIntS_0 x := by kernel_rfl
theorem loops_laws_toIntS_0 : loopsIn body_laws_toIntS_0 = [] := by kernel_rfl
theorem l_laws_toIntS_0 : LoopOk Try.prog (mkLM D_laws_toIntS_0 S_laws_toIntS_0_w) body_laws_toIntS_0 := loop_ok2 mix lay_ok cons_laws_toIntS (by kernel_rfl) (loops_mem loops_laws_toIntS_0 (trivial)) S_laws_toIntS_0_ok fun _ _ h => h
theorem loops_laws_toIntS : loopsIn code_laws_toIntS = [body_laws_toIntS_0] := by kernel_rfl
theorem m_laws_toIntS : Meets Try.prog 58 c_laws_toIntS := meets_of (E := E_laws_toIntS) (code := code_laws_toIntS) mix lay_ok cons_laws_toIntS Try.func58 (by kernel_rfl) sg_laws_toIntS (by kernel_rfl) (fun y => y.1) c_laws_toIntS.out (fun _ => rfl) c_laws_toIntS.run (fun x => by kernel_rfl) (by kernel_rfl) (loops_mem loops_laws_toIntS (⟨⟨_, by kernel_rfl, l_laws_toIntS_0⟩, trivial⟩))

noncomputable def sg_laws_toBigInt : Sig := ⟨[(true, [.bool, .sl .int])], false, [(true, [.data (.bool), .fresh .int])]⟩
noncomputable def c_laws_toBigInt : Con := ⟨sg_laws_toBigInt, Bg, fun x => M_laws_toBigInt (⟨x.1, x.2.1⟩ : Bg), fun r => (r.neg, r.mag, ())⟩
noncomputable def code_laws_toBigInt : Code := Try.f57.body.getD .skip
noncomputable def E_laws_toBigInt : Env := ⟨lay, [(58, c_laws_toIntS)], [], []⟩
theorem cons_laws_toBigInt : ConsOk Try.prog E_laws_toBigInt.cons := consOk_cons m_laws_toIntS (callable_of Try.func58 (by kernel_rfl)) (consOk_nil)
theorem loops_laws_toBigInt : loopsIn code_laws_toBigInt = [] := by kernel_rfl
theorem m_laws_toBigInt : Meets Try.prog 57 c_laws_toBigInt := meets_of (E := E_laws_toBigInt) (code := code_laws_toBigInt) mix lay_ok cons_laws_toBigInt Try.func57 (by kernel_rfl) sg_laws_toBigInt (by kernel_rfl) (fun y => (⟨y.1, y.2.1⟩ : Bg)) c_laws_toBigInt.out (fun _ => rfl) c_laws_toBigInt.run (fun x => by kernel_rfl) (by kernel_rfl) (loops_mem loops_laws_toBigInt (trivial))

noncomputable def sg_laws_toRat : Sig := ⟨[(true, [.bool, .sl .int, .sl .int])], false, [(true, [.data (.bool), .fresh .int, .fresh .int])]⟩
noncomputable def c_laws_toRat : Con := ⟨sg_laws_toRat, Rt, fun x => M_laws_toRat (⟨x.1, x.2.1, x.2.2.1⟩ : Rt), fun r => (r.neg, r.mag, r.den, ())⟩
noncomputable def code_laws_toRat : Code := Try.f47.body.getD .skip
noncomputable def E_laws_toRat : Env := ⟨lay, [(57, c_laws_toBigInt), (58, c_laws_toIntS)], [], []⟩
theorem cons_laws_toRat : ConsOk Try.prog E_laws_toRat.cons := consOk_cons m_laws_toBigInt (callable_of Try.func57 (by kernel_rfl)) (consOk_cons m_laws_toIntS (callable_of Try.func58 (by kernel_rfl)) (consOk_nil))
theorem loops_laws_toRat : loopsIn code_laws_toRat = [] := by kernel_rfl
theorem m_laws_toRat : Meets Try.prog 47 c_laws_toRat := meets_of (E := E_laws_toRat) (code := code_laws_toRat) mix lay_ok cons_laws_toRat Try.func47 (by kernel_rfl) sg_laws_toRat (by kernel_rfl) (fun y => (⟨y.1, y.2.1, y.2.2.1⟩ : Rt)) c_laws_toRat.out (fun _ => rfl) c_laws_toRat.run (fun x => by kernel_rfl) (by kernel_rfl) (loops_mem loops_laws_toRat (trivial))

noncomputable def sg_laws_toObservation : Sig := ⟨[(true, [.int .i64, .int .i64, .int .i64, .bool, .sl .int, .sl .int, .bool, .sl .int, .sl .int])], false, [(true, [.data (.int .i64), .data (.int .i64), .data (.int .i64), .data (.bool), .fresh .int, .fresh .int, .data (.bool), .fresh .int, .fresh .int])]⟩
noncomputable def c_laws_toObservation : Con := ⟨sg_laws_toObservation, Obs, fun x => M_laws_toObservation (⟨x.1, x.2.1, x.2.2.1, (⟨x.2.2.2.1, x.2.2.2.2.1, x.2.2.2.2.2.1⟩ : Rt), (⟨x.2.2.2.2.2.2.1, x.2.2.2.2.2.2.2.1, x.2.2.2.2.2.2.2.2.1⟩ : Rt)⟩ : Obs), fun r => (r.kind, r.frm, r.to, r.value.neg, r.value.mag, r.value.den, r.variance.neg, r.variance.mag, r.variance.den, ())⟩
noncomputable def code_laws_toObservation : Code := Try.f33.body.getD .skip
noncomputable def E_laws_toObservation : Env := ⟨lay, [(47, c_laws_toRat)], [], []⟩
theorem cons_laws_toObservation : ConsOk Try.prog E_laws_toObservation.cons := consOk_cons m_laws_toRat (callable_of Try.func47 (by kernel_rfl)) (consOk_nil)
theorem loops_laws_toObservation : loopsIn code_laws_toObservation = [] := by kernel_rfl
theorem m_laws_toObservation : Meets Try.prog 33 c_laws_toObservation := meets_of (E := E_laws_toObservation) (code := code_laws_toObservation) mix lay_ok cons_laws_toObservation Try.func33 (by kernel_rfl) sg_laws_toObservation (by kernel_rfl) (fun y => (⟨y.1, y.2.1, y.2.2.1, (⟨y.2.2.2.1, y.2.2.2.2.1, y.2.2.2.2.2.1⟩ : Rt), (⟨y.2.2.2.2.2.2.1, y.2.2.2.2.2.2.2.1, y.2.2.2.2.2.2.2.2.1⟩ : Rt)⟩ : Obs)) c_laws_toObservation.out (fun _ => rfl) c_laws_toObservation.run (fun x => by kernel_rfl) (by kernel_rfl) (loops_mem loops_laws_toObservation (trivial))

noncomputable def sg_laws_toObservationS : Sig := ⟨[(false, [.sl .obs])], false, [(false, [.fresh .obs])]⟩
noncomputable def c_laws_toObservationS : Con := ⟨sg_laws_toObservationS, List Obs, fun x => M_laws_toObservationS x.1, fun r => (r, ())⟩
noncomputable def code_laws_toObservationS : Code := Try.f15.body.getD .skip
noncomputable def body_laws_toObservationS_0 : Code := (loopsIn code_laws_toObservationS).getD 0 .skip
noncomputable def D_laws_toObservationS_0 : LoopD := ⟨⟨mkSlots [(0, false, [.d (.sl .obs)]), (3, false, [.own 768]), (4, false, [.d (.int .i64)])] 23 0, [(768, .arr false .obs)]⟩, [], [(.exit 0, ⟨mkSlots [(3, false, [.own 768])] 23 0, [(768, .arr false .obs)]⟩, [])]⟩
noncomputable def S_laws_toObservationS_0_w (x : Tys D_laws_toObservationS_0.head.ks) : Option (OutT D_laws_toObservationS_0.outs) := @whileO ((List Obs) × Int × (List Obs) × Unit) ((List Obs) × Unit) S_laws_toObservationS_0 x
noncomputable def E_laws_toObservationS : Env := ⟨lay, [(33, c_laws_toObservation)], [(3, mkLM D_laws_toObservationS_0 S_laws_toObservationS_0_w)], []⟩
theorem cons_laws_toObservationS : ConsOk Try.prog E_laws_toObservationS.cons := consOk_cons m_laws_toObservation (callable_of Try.func33 (by kernel_rfl)) (consOk_nil)
theorem S_laws_toObservationS_0_ok (x : Tys D_laws_toObservationS_0.head.ks) : stepL E_laws_toObservationS D_laws_toObservationS_0 body_laws_toObservationS_0 x = S_laws_toObservationS_0 x := by kernel_rfl
theorem loops_laws_toObservationS_0 : loopsIn body_laws_toObservationS_0 = [] := by kernel_rfl
theorem l_laws_toObservationS_0 : LoopOk Try.prog (mkLM D_laws_toObservationS_0 S_laws_toObservationS_0_w) body_laws_toObservationS_0 := loop_ok2 mix lay_ok cons_laws_toObservationS (by kernel_rfl) (loops_mem loops_laws_toObservationS_0 (trivial)) S_laws_toObservationS_0_ok fun _ _ h => h
theorem loops_laws_toObservationS : loopsIn code_laws_toObservationS = [body_laws_toObservationS_0] := by kernel_rfl
theorem m_laws_toObservationS : Meets Try.prog 15 c_laws_toObservationS := meets_of (E := E_laws_toObservationS) (code := code_laws_toObservationS) mix lay_ok cons_laws_toObservationS Try.func15 (by kernel_rfl) sg_laws_toObservationS (by kernel_rfl) (fun y => y.1) c_laws_toObservationS.out (fun _ => rfl) c_laws_toObservationS.run (fun x => by kernel_rfl) (by kernel_rfl) (loops_mem loops_laws_toObservationS (⟨⟨_, by kernel_rfl, l_laws_toObservationS_0⟩, trivial⟩))

noncomputable def sg_spec_l04List : Sig := ⟨[(false, [.sl .int]), (false, [.sl .int])], false, [(false, [.data (.bool)])]⟩
noncomputable def c_spec_l04List : Con := ⟨sg_spec_l04List, Bool, fun x => M_spec_l04List x.1 x.2.1, fun r => (r, ())⟩
noncomputable def code_spec_l04List : Code := Try.f61.body.getD .skip
noncomputable def body_spec_l04List_0 : Code := (loopsIn code_spec_l04List).getD 0 .skip
noncomputable def D_spec_l04List_0 : LoopD := ⟨⟨mkSlots [(0, false, [.d (.sl .int)]), (1, false, [.d (.sl .int)]), (12, false, [.d (.int .i64)]), (13, false, [.d (.int .i64)])] 26 0, []⟩, [], [(.ret, ⟨mkSlots [(4, false, [.d (.bool)])] 26 0, []⟩, []), (.exit 0, ⟨mkSlots [] 26 0, []⟩, [])]⟩
noncomputable def S_spec_l04List_0_w (x : Tys D_spec_l04List_0.head.ks) : Option (OutT D_spec_l04List_0.outs) := @whileO ((List Int) × (List Int) × Int × Int × Unit) ((Bool × Unit) ⊕ (Unit)) S_spec_l04List_0 x
noncomputable def E_spec_l04List : Env := ⟨lay, [], [(4, mkLM D_spec_l04List_0 S_spec_l04List_0_w)], [(6, [(0, []), (1, []), (2, []), (3, []), (4, []), (5, []), (6, []), (7, []), (8, [])])]⟩
theorem cons_spec_l04List : ConsOk Try.prog E_spec_l04List.cons := consOk_nil
theorem S_spec_l04List_0_ok (x : Tys D_spec_l04List_0.head.ks) : stepL E_spec_l04List D_spec_l04List_0 body_spec_l04List_0 x = S_spec_l04List_0 x := by kernel_rfl
theorem loops_spec_l04List_0 : loopsIn body_spec_l04List_0 = [] := by kernel_rfl
theorem l_spec_l04List_0 : LoopOk Try.prog (mkLM D_spec_l04List_0 S_spec_l04List_0_w) body_spec_l04List_0 := loop_ok2 mix lay_ok cons_spec_l04List (by kernel_rfl) (loops_mem loops_spec_l04List_0 (trivial)) S_spec_l04List_0_ok fun _ _ h => h
theorem loops_spec_l04List : loopsIn code_spec_l04List = [body_spec_l04List_0] := by kernel_rfl
theorem m_spec_l04List : Meets Try.prog 61 c_spec_l04List := meets_of (E := E_spec_l04List) (code := code_spec_l04List) mix lay_ok cons_spec_l04List Try.func61 (by kernel_rfl) sg_spec_l04List (by kernel_rfl) (fun y => y.1) c_spec_l04List.out (fun _ => rfl) c_spec_l04List.run (fun x => by kernel_rfl) (by kernel_rfl) (loops_mem loops_spec_l04List (⟨⟨_, by kernel_rfl, l_spec_l04List_0⟩, trivial⟩))

noncomputable def sg_spec_RatEqual : Sig := ⟨[(true, [.bool, .sl .int, .sl .int]), (true, [.bool, .sl .int, .sl .int])], false, [(false, [.data (.bool)])]⟩
noncomputable def c_spec_RatEqual : Con := ⟨sg_spec_RatEqual, Bool, fun x => M_spec_RatEqual (⟨x.1, x.2.1, x.2.2.1⟩ : Rt) (⟨x.2.2.2.1, x.2.2.2.2.1, x.2.2.2.2.2.1⟩ : Rt), fun r => (r, ())⟩
noncomputable def code_spec_RatEqual : Code := Try.f53.body.getD .skip
noncomputable def E_spec_RatEqual : Env := ⟨lay, [(61, c_spec_l04List)], [], []⟩
theorem cons_spec_RatEqual : ConsOk Try.prog E_spec_RatEqual.cons := consOk_cons m_spec_l04List (callable_of Try.func61 (by kernel_rfl)) (consOk_nil)
theorem loops_spec_RatEqual : loopsIn code_spec_RatEqual = [] := by kernel_rfl
theorem m_spec_RatEqual : Meets Try.prog 53 c_spec_RatEqual := meets_of (E := E_spec_RatEqual) (code := code_spec_RatEqual) mix lay_ok cons_spec_RatEqual Try.func53 (by kernel_rfl) sg_spec_RatEqual (by kernel_rfl) (fun y => y.1) c_spec_RatEqual.out (fun _ => rfl) c_spec_RatEqual.run (fun x => by kernel_rfl) (by kernel_rfl) (loops_mem loops_spec_RatEqual (trivial))

noncomputable def sg_spec_l11Same : Sig := ⟨[(true, [.int .i64, .int .i64, .int .i64, .bool, .sl .int, .sl .int, .bool, .sl .int, .sl .int]), (true, [.int .i64, .int .i64, .int .i64, .bool, .sl .int, .sl .int, .bool, .sl .int, .sl .int])], false, [(false, [.data (.bool)])]⟩
noncomputable def c_spec_l11Same : Con := ⟨sg_spec_l11Same, Bool, fun x => M_spec_l11Same (⟨x.1, x.2.1, x.2.2.1, (⟨x.2.2.2.1, x.2.2.2.2.1, x.2.2.2.2.2.1⟩ : Rt), (⟨x.2.2.2.2.2.2.1, x.2.2.2.2.2.2.2.1, x.2.2.2.2.2.2.2.2.1⟩ : Rt)⟩ : Obs) (⟨x.2.2.2.2.2.2.2.2.2.1, x.2.2.2.2.2.2.2.2.2.2.1, x.2.2.2.2.2.2.2.2.2.2.2.1, (⟨x.2.2.2.2.2.2.2.2.2.2.2.2.1, x.2.2.2.2.2.2.2.2.2.2.2.2.2.1, x.2.2.2.2.2.2.2.2.2.2.2.2.2.2.1⟩ : Rt), (⟨x.2.2.2.2.2.2.2.2.2.2.2.2.2.2.2.1, x.2.2.2.2.2.2.2.2.2.2.2.2.2.2.2.2.1, x.2.2.2.2.2.2.2.2.2.2.2.2.2.2.2.2.2.1⟩ : Rt)⟩ : Obs), fun r => (r, ())⟩
noncomputable def code_spec_l11Same : Code := Try.f44.body.getD .skip
noncomputable def E_spec_l11Same : Env := ⟨lay, [(53, c_spec_RatEqual)], [], []⟩
theorem cons_spec_l11Same : ConsOk Try.prog E_spec_l11Same.cons := consOk_cons m_spec_RatEqual (callable_of Try.func53 (by kernel_rfl)) (consOk_nil)
theorem loops_spec_l11Same : loopsIn code_spec_l11Same = [] := by kernel_rfl
theorem m_spec_l11Same : Meets Try.prog 44 c_spec_l11Same := meets_of (E := E_spec_l11Same) (code := code_spec_l11Same) mix lay_ok cons_spec_l11Same Try.func44 (by kernel_rfl) sg_spec_l11Same (by kernel_rfl) (fun y => y.1) c_spec_l11Same.out (fun _ => rfl) c_spec_l11Same.run (fun x => by kernel_rfl) (by kernel_rfl) (loops_mem loops_spec_l11Same (trivial))

noncomputable def sg_spec_SameObservations : Sig := ⟨[(false, [.sl .obs]), (false, [.sl .obs])], false, [(false, [.data (.bool)])]⟩
noncomputable def c_spec_SameObservations : Con := ⟨sg_spec_SameObservations, Bool, fun x => M_spec_SameObservations x.1 x.2.1, fun r => (r, ())⟩
noncomputable def code_spec_SameObservations : Code := Try.f28.body.getD .skip
noncomputable def body_spec_SameObservations_0 : Code := (loopsIn code_spec_SameObservations).getD 0 .skip
noncomputable def D_spec_SameObservations_0 : LoopD := ⟨⟨mkSlots [(1, false, [.d (.sl .obs)]), (12, false, [.d (.sl .obs)]), (13, false, [.d (.int .i64)]), (14, false, [.d (.int .i64)])] 27 0, []⟩, [], [(.ret, ⟨mkSlots [(4, false, [.d (.bool)])] 27 0, []⟩, []), (.exit 0, ⟨mkSlots [] 27 0, []⟩, [])]⟩
noncomputable def S_spec_SameObservations_0_w (x : Tys D_spec_SameObservations_0.head.ks) : Option (OutT D_spec_SameObservations_0.outs) := @whileO ((List Obs) × (List Obs) × Int × Int × Unit) ((Bool × Unit) ⊕ (Unit)) S_spec_SameObservations_0 x
noncomputable def E_spec_SameObservations : Env := ⟨lay, [(44, c_spec_l11Same)], [(4, mkLM D_spec_SameObservations_0 S_spec_SameObservations_0_w)], [(6, [(0, []), (1, []), (2, []), (3, []), (4, []), (5, [0, 4, 3, 1, 2]), (6, [])])]⟩
theorem cons_spec_SameObservations : ConsOk Try.prog E_spec_SameObservations.cons := consOk_cons m_spec_l11Same (callable_of Try.func44 (by kernel_rfl)) (consOk_nil)
theorem S_spec_SameObservations_0_ok (x : Tys D_spec_SameObservations_0.head.ks) : stepL E_spec_SameObservations D_spec_SameObservations_0 body_spec_SameObservations_0 x = S_spec_SameObservations_0 x := by kernel_rfl
theorem loops_spec_SameObservations_0 : loopsIn body_spec_SameObservations_0 = [] := by kernel_rfl
theorem l_spec_SameObservations_0 : LoopOk Try.prog (mkLM D_spec_SameObservations_0 S_spec_SameObservations_0_w) body_spec_SameObservations_0 := loop_ok2 mix lay_ok cons_spec_SameObservations (by kernel_rfl) (loops_mem loops_spec_SameObservations_0 (trivial)) S_spec_SameObservations_0_ok fun _ _ h => h
theorem loops_spec_SameObservations : loopsIn code_spec_SameObservations = [body_spec_SameObservations_0] := by kernel_rfl
theorem m_spec_SameObservations : Meets Try.prog 28 c_spec_SameObservations := meets_of (E := E_spec_SameObservations) (code := code_spec_SameObservations) mix lay_ok cons_spec_SameObservations Try.func28 (by kernel_rfl) sg_spec_SameObservations (by kernel_rfl) (fun y => y.1) c_spec_SameObservations.out (fun _ => rfl) c_spec_SameObservations.run (fun x => by kernel_rfl) (by kernel_rfl) (loops_mem loops_spec_SameObservations (⟨⟨_, by kernel_rfl, l_spec_SameObservations_0⟩, trivial⟩))

noncomputable def sg_impl_sameInts : Sig := ⟨[(false, [.sl .int]), (false, [.sl .int])], false, [(false, [.data (.bool)])]⟩
noncomputable def c_impl_sameInts : Con := ⟨sg_impl_sameInts, Bool, fun x => M_impl_sameInts x.1 x.2.1, fun r => (r, ())⟩
noncomputable def code_impl_sameInts : Code := Try.f62.body.getD .skip
noncomputable def body_impl_sameInts_0 : Code := (loopsIn code_impl_sameInts).getD 0 .skip
noncomputable def D_impl_sameInts_0 : LoopD := ⟨⟨mkSlots [(0, false, [.d (.sl .int)]), (1, false, [.d (.sl .int)]), (12, false, [.d (.int .i64)]), (13, false, [.d (.int .i64)])] 26 0, []⟩, [], [(.ret, ⟨mkSlots [(4, false, [.d (.bool)])] 26 0, []⟩, []), (.exit 0, ⟨mkSlots [] 26 0, []⟩, [])]⟩
noncomputable def S_impl_sameInts_0_w (x : Tys D_impl_sameInts_0.head.ks) : Option (OutT D_impl_sameInts_0.outs) := @whileO ((List Int) × (List Int) × Int × Int × Unit) ((Bool × Unit) ⊕ (Unit)) S_impl_sameInts_0 x
noncomputable def E_impl_sameInts : Env := ⟨lay, [], [(4, mkLM D_impl_sameInts_0 S_impl_sameInts_0_w)], [(6, [(0, []), (1, []), (2, []), (3, []), (4, []), (5, []), (6, []), (7, []), (8, [])])]⟩
theorem cons_impl_sameInts : ConsOk Try.prog E_impl_sameInts.cons := consOk_nil
theorem S_impl_sameInts_0_ok (x : Tys D_impl_sameInts_0.head.ks) : stepL E_impl_sameInts D_impl_sameInts_0 body_impl_sameInts_0 x = S_impl_sameInts_0 x := by kernel_rfl
theorem loops_impl_sameInts_0 : loopsIn body_impl_sameInts_0 = [] := by kernel_rfl
theorem l_impl_sameInts_0 : LoopOk Try.prog (mkLM D_impl_sameInts_0 S_impl_sameInts_0_w) body_impl_sameInts_0 := loop_ok2 mix lay_ok cons_impl_sameInts (by kernel_rfl) (loops_mem loops_impl_sameInts_0 (trivial)) S_impl_sameInts_0_ok fun _ _ h => h
theorem loops_impl_sameInts : loopsIn code_impl_sameInts = [body_impl_sameInts_0] := by kernel_rfl
theorem m_impl_sameInts : Meets Try.prog 62 c_impl_sameInts := meets_of (E := E_impl_sameInts) (code := code_impl_sameInts) mix lay_ok cons_impl_sameInts Try.func62 (by kernel_rfl) sg_impl_sameInts (by kernel_rfl) (fun y => y.1) c_impl_sameInts.out (fun _ => rfl) c_impl_sameInts.run (fun x => by kernel_rfl) (by kernel_rfl) (loops_mem loops_impl_sameInts (⟨⟨_, by kernel_rfl, l_impl_sameInts_0⟩, trivial⟩))

noncomputable def sg_impl_RatEqual : Sig := ⟨[(true, [.bool, .sl .int, .sl .int]), (true, [.bool, .sl .int, .sl .int])], false, [(false, [.data (.bool)])]⟩
noncomputable def c_impl_RatEqual : Con := ⟨sg_impl_RatEqual, Bool, fun x => M_impl_RatEqual (⟨x.1, x.2.1, x.2.2.1⟩ : Rt) (⟨x.2.2.2.1, x.2.2.2.2.1, x.2.2.2.2.2.1⟩ : Rt), fun r => (r, ())⟩
noncomputable def code_impl_RatEqual : Code := Try.f54.body.getD .skip
noncomputable def E_impl_RatEqual : Env := ⟨lay, [(62, c_impl_sameInts)], [], []⟩
theorem cons_impl_RatEqual : ConsOk Try.prog E_impl_RatEqual.cons := consOk_cons m_impl_sameInts (callable_of Try.func62 (by kernel_rfl)) (consOk_nil)
theorem loops_impl_RatEqual : loopsIn code_impl_RatEqual = [] := by kernel_rfl
theorem m_impl_RatEqual : Meets Try.prog 54 c_impl_RatEqual := meets_of (E := E_impl_RatEqual) (code := code_impl_RatEqual) mix lay_ok cons_impl_RatEqual Try.func54 (by kernel_rfl) sg_impl_RatEqual (by kernel_rfl) (fun y => y.1) c_impl_RatEqual.out (fun _ => rfl) c_impl_RatEqual.run (fun x => by kernel_rfl) (by kernel_rfl) (loops_mem loops_impl_RatEqual (trivial))

noncomputable def sg_impl_sameObservation : Sig := ⟨[(true, [.int .i64, .int .i64, .int .i64, .bool, .sl .int, .sl .int, .bool, .sl .int, .sl .int]), (true, [.int .i64, .int .i64, .int .i64, .bool, .sl .int, .sl .int, .bool, .sl .int, .sl .int])], false, [(false, [.data (.bool)])]⟩
noncomputable def c_impl_sameObservation : Con := ⟨sg_impl_sameObservation, Bool, fun x => M_impl_sameObservation (⟨x.1, x.2.1, x.2.2.1, (⟨x.2.2.2.1, x.2.2.2.2.1, x.2.2.2.2.2.1⟩ : Rt), (⟨x.2.2.2.2.2.2.1, x.2.2.2.2.2.2.2.1, x.2.2.2.2.2.2.2.2.1⟩ : Rt)⟩ : Obs) (⟨x.2.2.2.2.2.2.2.2.2.1, x.2.2.2.2.2.2.2.2.2.2.1, x.2.2.2.2.2.2.2.2.2.2.2.1, (⟨x.2.2.2.2.2.2.2.2.2.2.2.2.1, x.2.2.2.2.2.2.2.2.2.2.2.2.2.1, x.2.2.2.2.2.2.2.2.2.2.2.2.2.2.1⟩ : Rt), (⟨x.2.2.2.2.2.2.2.2.2.2.2.2.2.2.2.1, x.2.2.2.2.2.2.2.2.2.2.2.2.2.2.2.2.1, x.2.2.2.2.2.2.2.2.2.2.2.2.2.2.2.2.2.1⟩ : Rt)⟩ : Obs), fun r => (r, ())⟩
noncomputable def code_impl_sameObservation : Code := Try.f45.body.getD .skip
noncomputable def E_impl_sameObservation : Env := ⟨lay, [(54, c_impl_RatEqual)], [], []⟩
theorem cons_impl_sameObservation : ConsOk Try.prog E_impl_sameObservation.cons := consOk_cons m_impl_RatEqual (callable_of Try.func54 (by kernel_rfl)) (consOk_nil)
theorem loops_impl_sameObservation : loopsIn code_impl_sameObservation = [] := by kernel_rfl
theorem m_impl_sameObservation : Meets Try.prog 45 c_impl_sameObservation := meets_of (E := E_impl_sameObservation) (code := code_impl_sameObservation) mix lay_ok cons_impl_sameObservation Try.func45 (by kernel_rfl) sg_impl_sameObservation (by kernel_rfl) (fun y => y.1) c_impl_sameObservation.out (fun _ => rfl) c_impl_sameObservation.run (fun x => by kernel_rfl) (by kernel_rfl) (loops_mem loops_impl_sameObservation (trivial))

noncomputable def sg_impl_SameObservations : Sig := ⟨[(false, [.sl .obs]), (false, [.sl .obs])], false, [(false, [.data (.bool)])]⟩
noncomputable def c_impl_SameObservations : Con := ⟨sg_impl_SameObservations, Bool, fun x => M_impl_SameObservations x.1 x.2.1, fun r => (r, ())⟩
noncomputable def code_impl_SameObservations : Code := Try.f29.body.getD .skip
noncomputable def body_impl_SameObservations_0 : Code := (loopsIn code_impl_SameObservations).getD 0 .skip
noncomputable def D_impl_SameObservations_0 : LoopD := ⟨⟨mkSlots [(0, false, [.d (.sl .obs)]), (1, false, [.d (.sl .obs)]), (12, false, [.d (.int .i64)]), (13, false, [.d (.int .i64)])] 27 0, []⟩, [], [(.ret, ⟨mkSlots [(4, false, [.d (.bool)])] 27 0, []⟩, []), (.exit 0, ⟨mkSlots [] 27 0, []⟩, [])]⟩
noncomputable def S_impl_SameObservations_0_w (x : Tys D_impl_SameObservations_0.head.ks) : Option (OutT D_impl_SameObservations_0.outs) := @whileO ((List Obs) × (List Obs) × Int × Int × Unit) ((Bool × Unit) ⊕ (Unit)) S_impl_SameObservations_0 x
noncomputable def E_impl_SameObservations : Env := ⟨lay, [(45, c_impl_sameObservation)], [(4, mkLM D_impl_SameObservations_0 S_impl_SameObservations_0_w)], [(6, [(0, []), (1, []), (2, []), (3, []), (4, []), (5, []), (6, []), (7, []), (8, [3, 7, 2, 6, 0, 1, 4, 5]), (9, [])])]⟩
theorem cons_impl_SameObservations : ConsOk Try.prog E_impl_SameObservations.cons := consOk_cons m_impl_sameObservation (callable_of Try.func45 (by kernel_rfl)) (consOk_nil)
theorem S_impl_SameObservations_0_ok (x : Tys D_impl_SameObservations_0.head.ks) : stepL E_impl_SameObservations D_impl_SameObservations_0 body_impl_SameObservations_0 x = S_impl_SameObservations_0 x := by kernel_rfl
theorem loops_impl_SameObservations_0 : loopsIn body_impl_SameObservations_0 = [] := by kernel_rfl
theorem l_impl_SameObservations_0 : LoopOk Try.prog (mkLM D_impl_SameObservations_0 S_impl_SameObservations_0_w) body_impl_SameObservations_0 := loop_ok2 mix lay_ok cons_impl_SameObservations (by kernel_rfl) (loops_mem loops_impl_SameObservations_0 (trivial)) S_impl_SameObservations_0_ok fun _ _ h => h
theorem loops_impl_SameObservations : loopsIn code_impl_SameObservations = [body_impl_SameObservations_0] := by kernel_rfl
theorem m_impl_SameObservations : Meets Try.prog 29 c_impl_SameObservations := meets_of (E := E_impl_SameObservations) (code := code_impl_SameObservations) mix lay_ok cons_impl_SameObservations Try.func29 (by kernel_rfl) sg_impl_SameObservations (by kernel_rfl) (fun y => y.1) c_impl_SameObservations.out (fun _ => rfl) c_impl_SameObservations.run (fun x => by kernel_rfl) (by kernel_rfl) (loops_mem loops_impl_SameObservations (⟨⟨_, by kernel_rfl, l_impl_SameObservations_0⟩, trivial⟩))

noncomputable def sg_laws_eqIntS : Sig := ⟨[(false, [.sl .int]), (false, [.sl .int])], false, [(false, [.data (.bool)])]⟩
noncomputable def c_laws_eqIntS : Con := ⟨sg_laws_eqIntS, Bool, fun x => M_laws_eqIntS x.1 x.2.1, fun r => (r, ())⟩
noncomputable def code_laws_eqIntS : Code := Try.f60.body.getD .skip
noncomputable def body_laws_eqIntS_0 : Code := (loopsIn code_laws_eqIntS).getD 0 .skip
noncomputable def D_laws_eqIntS_0 : LoopD := ⟨⟨mkSlots [(0, false, [.d (.sl .int)]), (1, false, [.d (.sl .int)]), (5, false, [.d (.int .i64)])] 26 0, []⟩, [], [(.ret, ⟨mkSlots [(4, false, [.d (.bool)])] 26 0, []⟩, []), (.exit 0, ⟨mkSlots [] 26 0, []⟩, [])]⟩
noncomputable def S_laws_eqIntS_0_w (x : Tys D_laws_eqIntS_0.head.ks) : Option (OutT D_laws_eqIntS_0.outs) := @whileO ((List Int) × (List Int) × Int × Unit) ((Bool × Unit) ⊕ (Unit)) S_laws_eqIntS_0 x
noncomputable def E_laws_eqIntS : Env := ⟨lay, [], [(4, mkLM D_laws_eqIntS_0 S_laws_eqIntS_0_w)], [(6, [(0, []), (1, []), (2, []), (3, []), (4, []), (5, []), (6, []), (7, []), (8, [])])]⟩
theorem cons_laws_eqIntS : ConsOk Try.prog E_laws_eqIntS.cons := consOk_nil
theorem S_laws_eqIntS_0_ok (x : Tys D_laws_eqIntS_0.head.ks) : stepL E_laws_eqIntS D_laws_eqIntS_0 body_laws_eqIntS_0 x = S_laws_eqIntS_0 x := by kernel_rfl
theorem loops_laws_eqIntS_0 : loopsIn body_laws_eqIntS_0 = [] := by kernel_rfl
theorem l_laws_eqIntS_0 : LoopOk Try.prog (mkLM D_laws_eqIntS_0 S_laws_eqIntS_0_w) body_laws_eqIntS_0 := loop_ok2 mix lay_ok cons_laws_eqIntS (by kernel_rfl) (loops_mem loops_laws_eqIntS_0 (trivial)) S_laws_eqIntS_0_ok fun _ _ h => h
theorem loops_laws_eqIntS : loopsIn code_laws_eqIntS = [body_laws_eqIntS_0] := by kernel_rfl
theorem m_laws_eqIntS : Meets Try.prog 60 c_laws_eqIntS := meets_of (E := E_laws_eqIntS) (code := code_laws_eqIntS) mix lay_ok cons_laws_eqIntS Try.func60 (by kernel_rfl) sg_laws_eqIntS (by kernel_rfl) (fun y => y.1) c_laws_eqIntS.out (fun _ => rfl) c_laws_eqIntS.run (fun x => by kernel_rfl) (by kernel_rfl) (loops_mem loops_laws_eqIntS (⟨⟨_, by kernel_rfl, l_laws_eqIntS_0⟩, trivial⟩))

noncomputable def sg_laws_eqBigInt : Sig := ⟨[(true, [.bool, .sl .int]), (true, [.bool, .sl .int])], false, [(false, [.data (.bool)])]⟩
noncomputable def c_laws_eqBigInt : Con := ⟨sg_laws_eqBigInt, Bool, fun x => M_laws_eqBigInt (⟨x.1, x.2.1⟩ : Bg) (⟨x.2.2.1, x.2.2.2.1⟩ : Bg), fun r => (r, ())⟩
noncomputable def code_laws_eqBigInt : Code := Try.f59.body.getD .skip
noncomputable def E_laws_eqBigInt : Env := ⟨lay, [(60, c_laws_eqIntS)], [], []⟩
theorem cons_laws_eqBigInt : ConsOk Try.prog E_laws_eqBigInt.cons := consOk_cons m_laws_eqIntS (callable_of Try.func60 (by kernel_rfl)) (consOk_nil)
theorem loops_laws_eqBigInt : loopsIn code_laws_eqBigInt = [] := by kernel_rfl
theorem m_laws_eqBigInt : Meets Try.prog 59 c_laws_eqBigInt := meets_of (E := E_laws_eqBigInt) (code := code_laws_eqBigInt) mix lay_ok cons_laws_eqBigInt Try.func59 (by kernel_rfl) sg_laws_eqBigInt (by kernel_rfl) (fun y => y.1) c_laws_eqBigInt.out (fun _ => rfl) c_laws_eqBigInt.run (fun x => by kernel_rfl) (by kernel_rfl) (loops_mem loops_laws_eqBigInt (trivial))

noncomputable def sg_laws_eqRat : Sig := ⟨[(true, [.bool, .sl .int, .sl .int]), (true, [.bool, .sl .int, .sl .int])], false, [(false, [.data (.bool)])]⟩
noncomputable def c_laws_eqRat : Con := ⟨sg_laws_eqRat, Bool, fun x => M_laws_eqRat (⟨x.1, x.2.1, x.2.2.1⟩ : Rt) (⟨x.2.2.2.1, x.2.2.2.2.1, x.2.2.2.2.2.1⟩ : Rt), fun r => (r, ())⟩
noncomputable def code_laws_eqRat : Code := Try.f49.body.getD .skip
noncomputable def E_laws_eqRat : Env := ⟨lay, [(59, c_laws_eqBigInt), (60, c_laws_eqIntS)], [], []⟩
theorem cons_laws_eqRat : ConsOk Try.prog E_laws_eqRat.cons := consOk_cons m_laws_eqBigInt (callable_of Try.func59 (by kernel_rfl)) (consOk_cons m_laws_eqIntS (callable_of Try.func60 (by kernel_rfl)) (consOk_nil))
theorem loops_laws_eqRat : loopsIn code_laws_eqRat = [] := by kernel_rfl
theorem m_laws_eqRat : Meets Try.prog 49 c_laws_eqRat := meets_of (E := E_laws_eqRat) (code := code_laws_eqRat) mix lay_ok cons_laws_eqRat Try.func49 (by kernel_rfl) sg_laws_eqRat (by kernel_rfl) (fun y => y.1) c_laws_eqRat.out (fun _ => rfl) c_laws_eqRat.run (fun x => by kernel_rfl) (by kernel_rfl) (loops_mem loops_laws_eqRat (trivial))

noncomputable def sg_laws_eqObservation : Sig := ⟨[(true, [.int .i64, .int .i64, .int .i64, .bool, .sl .int, .sl .int, .bool, .sl .int, .sl .int]), (true, [.int .i64, .int .i64, .int .i64, .bool, .sl .int, .sl .int, .bool, .sl .int, .sl .int])], false, [(false, [.data (.bool)])]⟩
noncomputable def c_laws_eqObservation : Con := ⟨sg_laws_eqObservation, Bool, fun x => M_laws_eqObservation (⟨x.1, x.2.1, x.2.2.1, (⟨x.2.2.2.1, x.2.2.2.2.1, x.2.2.2.2.2.1⟩ : Rt), (⟨x.2.2.2.2.2.2.1, x.2.2.2.2.2.2.2.1, x.2.2.2.2.2.2.2.2.1⟩ : Rt)⟩ : Obs) (⟨x.2.2.2.2.2.2.2.2.2.1, x.2.2.2.2.2.2.2.2.2.2.1, x.2.2.2.2.2.2.2.2.2.2.2.1, (⟨x.2.2.2.2.2.2.2.2.2.2.2.2.1, x.2.2.2.2.2.2.2.2.2.2.2.2.2.1, x.2.2.2.2.2.2.2.2.2.2.2.2.2.2.1⟩ : Rt), (⟨x.2.2.2.2.2.2.2.2.2.2.2.2.2.2.2.1, x.2.2.2.2.2.2.2.2.2.2.2.2.2.2.2.2.1, x.2.2.2.2.2.2.2.2.2.2.2.2.2.2.2.2.2.1⟩ : Rt)⟩ : Obs), fun r => (r, ())⟩
noncomputable def code_laws_eqObservation : Code := Try.f35.body.getD .skip
noncomputable def E_laws_eqObservation : Env := ⟨lay, [(49, c_laws_eqRat)], [], []⟩
theorem cons_laws_eqObservation : ConsOk Try.prog E_laws_eqObservation.cons := consOk_cons m_laws_eqRat (callable_of Try.func49 (by kernel_rfl)) (consOk_nil)
theorem loops_laws_eqObservation : loopsIn code_laws_eqObservation = [] := by kernel_rfl
theorem m_laws_eqObservation : Meets Try.prog 35 c_laws_eqObservation := meets_of (E := E_laws_eqObservation) (code := code_laws_eqObservation) mix lay_ok cons_laws_eqObservation Try.func35 (by kernel_rfl) sg_laws_eqObservation (by kernel_rfl) (fun y => y.1) c_laws_eqObservation.out (fun _ => rfl) c_laws_eqObservation.run (fun x => by kernel_rfl) (by kernel_rfl) (loops_mem loops_laws_eqObservation (trivial))

noncomputable def sg_laws_eqObservationS : Sig := ⟨[(false, [.sl .obs]), (false, [.sl .obs])], false, [(false, [.data (.bool)])]⟩
noncomputable def c_laws_eqObservationS : Con := ⟨sg_laws_eqObservationS, Bool, fun x => M_laws_eqObservationS x.1 x.2.1, fun r => (r, ())⟩
noncomputable def code_laws_eqObservationS : Code := Try.f17.body.getD .skip
noncomputable def body_laws_eqObservationS_0 : Code := (loopsIn code_laws_eqObservationS).getD 0 .skip
noncomputable def D_laws_eqObservationS_0 : LoopD := ⟨⟨mkSlots [(0, false, [.d (.sl .obs)]), (1, false, [.d (.sl .obs)]), (5, false, [.d (.int .i64)])] 27 0, []⟩, [], [(.ret, ⟨mkSlots [(4, false, [.d (.bool)])] 27 0, []⟩, []), (.exit 0, ⟨mkSlots [] 27 0, []⟩, [])]⟩
noncomputable def S_laws_eqObservationS_0_w (x : Tys D_laws_eqObservationS_0.head.ks) : Option (OutT D_laws_eqObservationS_0.outs) := @whileO ((List Obs) × (List Obs) × Int × Unit) ((Bool × Unit) ⊕ (Unit)) S_laws_eqObservationS_0 x
noncomputable def E_laws_eqObservationS : Env := ⟨lay, [(35, c_laws_eqObservation)], [(4, mkLM D_laws_eqObservationS_0 S_laws_eqObservationS_0_w)], [(6, [(0, []), (1, []), (2, []), (3, []), (4, []), (5, []), (6, []), (7, []), (8, [3, 7, 2, 6, 0, 1, 4, 5]), (9, [])])]⟩
theorem cons_laws_eqObservationS : ConsOk Try.prog E_laws_eqObservationS.cons := consOk_cons m_laws_eqObservation (callable_of Try.func35 (by kernel_rfl)) (consOk_nil)
theorem S_laws_eqObservationS_0_ok (x : Tys D_laws_eqObservationS_0.head.ks) : stepL E_laws_eqObservationS D_laws_eqObservationS_0 body_laws_eqObservationS_0 x = S_laws_eqObservationS_0 x := by kernel_rfl
theorem loops_laws_eqObservationS_0 : loopsIn body_laws_eqObservationS_0 = [] := by kernel_rfl
theorem l_laws_eqObservationS_0 : LoopOk Try.prog (mkLM D_laws_eqObservationS_0 S_laws_eqObservationS_0_w) body_laws_eqObservationS_0 := loop_ok2 mix lay_ok cons_laws_eqObservationS (by kernel_rfl) (loops_mem loops_laws_eqObservationS_0 (trivial)) S_laws_eqObservationS_0_ok fun _ _ h => h
theorem loops_laws_eqObservationS : loopsIn code_laws_eqObservationS = [body_laws_eqObservationS_0] := by kernel_rfl
theorem m_laws_eqObservationS : Meets Try.prog 17 c_laws_eqObservationS := meets_of (E := E_laws_eqObservationS) (code := code_laws_eqObservationS) mix lay_ok cons_laws_eqObservationS Try.func17 (by kernel_rfl) sg_laws_eqObservationS (by kernel_rfl) (fun y => y.1) c_laws_eqObservationS.out (fun _ => rfl) c_laws_eqObservationS.run (fun x => by kernel_rfl) (by kernel_rfl) (loops_mem loops_laws_eqObservationS (⟨⟨_, by kernel_rfl, l_laws_eqObservationS_0⟩, trivial⟩))

noncomputable def sg_laws_FnExactSameObservations : Sig := ⟨[(false, [.sl .obs]), (false, [.sl .obs])], false, [(false, [.data (.bool)])]⟩
noncomputable def c_laws_FnExactSameObservations : Con := ⟨sg_laws_FnExactSameObservations, Bool, fun x => M_laws_FnExactSameObservations x.1 x.2.1, fun r => (r, ())⟩
noncomputable def code_laws_FnExactSameObservations : Code := Try.f8.body.getD .skip
noncomputable def E_laws_FnExactSameObservations : Env := ⟨lay, [(13, c_laws_szObservationS), (15, c_laws_toObservationS), (28, c_spec_SameObservations), (29, c_impl_SameObservations), (17, c_laws_eqObservationS)], [], []⟩
theorem cons_laws_FnExactSameObservations : ConsOk Try.prog E_laws_FnExactSameObservations.cons := consOk_cons m_laws_szObservationS (callable_of Try.func13 (by kernel_rfl)) (consOk_cons m_laws_toObservationS (callable_of Try.func15 (by kernel_rfl)) (consOk_cons m_spec_SameObservations (callable_of Try.func28 (by kernel_rfl)) (consOk_cons m_impl_SameObservations (callable_of Try.func29 (by kernel_rfl)) (consOk_cons m_laws_eqObservationS (callable_of Try.func17 (by kernel_rfl)) (consOk_nil)))))
theorem loops_laws_FnExactSameObservations : loopsIn code_laws_FnExactSameObservations = [] := by kernel_rfl
theorem m_laws_FnExactSameObservations : Meets Try.prog 8 c_laws_FnExactSameObservations := meets_of (E := E_laws_FnExactSameObservations) (code := code_laws_FnExactSameObservations) mix lay_ok cons_laws_FnExactSameObservations Try.func8 (by kernel_rfl) sg_laws_FnExactSameObservations (by kernel_rfl) (fun y => y.1) c_laws_FnExactSameObservations.out (fun _ => rfl) c_laws_FnExactSameObservations.run (fun x => by kernel_rfl) (by kernel_rfl) (loops_mem loops_laws_FnExactSameObservations (trivial))
end Go.Proofs.Ytalnijffcoppkaa.WSameObservations
