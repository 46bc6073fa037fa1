/-
  Own work: part 4 of the texts that the proof of the given statement leans on.
-/
import Derived.Test.YtalnijffcoppkaaProg
import Derived.Test.YtalnijffcoppkaaZCountRepeatsP02
/-
  Own work, written by program (gen.py): the functions that the statement reaches meet their contracts.
-/
open Go Go.Di Go.Proofs
namespace Go.Proofs.Ytalnijffcoppkaa.WCountRepeats
noncomputable def lay : List (TypeId × TI) := [
  (3, ⟨false, [.d (.int .i64 0)], [], none, some (.int .i64), false⟩),
  (4, ⟨false, [.d (.bool false)], [], none, some .bool, false⟩),
  (24, ⟨false, [.mt], [], some .obs, none, false⟩),
  (27, ⟨false, [.mt], [], some .obs, none, false⟩),
  (56, ⟨false, [.mt], [], some .int, none, false⟩),
  (58, ⟨true, [.d (.bool false), .mt], [(0, 1, false), (1, 1, false)], none, none, true⟩),
  (60, ⟨true, [.d (.bool false), .mt, .mt], [(0, 2, true), (2, 1, false)], none, none, true⟩),
  (62, ⟨true, [.d (.int .i64 0), .d (.int .i64 0), .d (.int .i64 0), .d (.bool false), .mt, .mt, .d (.bool false), .mt, .mt], [(0, 1, false), (1, 1, false), (2, 1, false), (3, 3, true), (6, 3, true)], none, none, true⟩),
  (64, ⟨true, [.d (.bool false), .mt], [(0, 1, false), (1, 1, false)], none, none, true⟩),
  (66, ⟨true, [.d (.bool false), .mt, .mt], [(0, 2, true), (2, 1, false)], none, none, true⟩),
  (68, ⟨true, [.d (.int .i64 0), .d (.int .i64 0), .d (.int .i64 0), .d (.bool false), .mt, .mt, .d (.bool false), .mt, .mt], [(0, 1, false), (1, 1, false), (2, 1, false), (3, 3, true), (6, 3, true)], none, none, true⟩)]
theorem lay_ok : LayOk Try.prog lay := layOk_ok (by kernel_rfl)
theorem mix : Try.prog.follows .mixedOrders = true := by kernel_rfl

noncomputable def sg_laws_szIntS : Sig := ⟨[(false, [.sl .int]), (false, [.int .i64])], false, [(false, [.data (.int .i64)])]⟩
noncomputable def c_laws_szIntS : Con := ⟨sg_laws_szIntS, Int, fun x => M_laws_szIntS x.1 x.2.1, fun r => (r, ())⟩
noncomputable def code_laws_szIntS : Code := Try.f56.body.getD .skip
noncomputable def E_laws_szIntS : Env := ⟨lay, [], [], []⟩
theorem cons_laws_szIntS : ConsOk Try.prog E_laws_szIntS.cons := consOk_nil
theorem loops_laws_szIntS : loopsIn code_laws_szIntS = [] := by kernel_rfl
theorem m_laws_szIntS : Meets Try.prog 56 c_laws_szIntS := meets_of (E := E_laws_szIntS) (code := code_laws_szIntS) mix lay_ok cons_laws_szIntS Try.func56 (by kernel_rfl) sg_laws_szIntS (by kernel_rfl) (fun y => y.1) c_laws_szIntS.out (fun _ => rfl) c_laws_szIntS.run (fun x => by kernel_rfl) (by kernel_rfl) (loops_mem loops_laws_szIntS (trivial))

noncomputable def sg_laws_szBigInt : Sig := ⟨[(true, [.bool, .sl .int]), (false, [.int .i64])], false, [(false, [.data (.int .i64)])]⟩
noncomputable def c_laws_szBigInt : Con := ⟨sg_laws_szBigInt, Int, fun x => M_laws_szBigInt (⟨x.1, x.2.1⟩ : Bg) x.2.2.1, fun r => (r, ())⟩
noncomputable def code_laws_szBigInt : Code := Try.f55.body.getD .skip
noncomputable def E_laws_szBigInt : Env := ⟨lay, [(56, c_laws_szIntS)], [], []⟩
theorem cons_laws_szBigInt : ConsOk Try.prog E_laws_szBigInt.cons := consOk_cons m_laws_szIntS (callable_of Try.func56 (by kernel_rfl)) (consOk_nil)
theorem loops_laws_szBigInt : loopsIn code_laws_szBigInt = [] := by kernel_rfl
theorem m_laws_szBigInt : Meets Try.prog 55 c_laws_szBigInt := meets_of (E := E_laws_szBigInt) (code := code_laws_szBigInt) mix lay_ok cons_laws_szBigInt Try.func55 (by kernel_rfl) sg_laws_szBigInt (by kernel_rfl) (fun y => y.1) c_laws_szBigInt.out (fun _ => rfl) c_laws_szBigInt.run (fun x => by kernel_rfl) (by kernel_rfl) (loops_mem loops_laws_szBigInt (trivial))

noncomputable def sg_laws_szRat : Sig := ⟨[(true, [.bool, .sl .int, .sl .int]), (false, [.int .i64])], false, [(false, [.data (.int .i64)])]⟩
noncomputable def c_laws_szRat : Con := ⟨sg_laws_szRat, Int, fun x => M_laws_szRat (⟨x.1, x.2.1, x.2.2.1⟩ : Rt) x.2.2.2.1, fun r => (r, ())⟩
noncomputable def code_laws_szRat : Code := Try.f46.body.getD .skip
noncomputable def E_laws_szRat : Env := ⟨lay, [(55, c_laws_szBigInt), (56, c_laws_szIntS)], [], []⟩
theorem cons_laws_szRat : ConsOk Try.prog E_laws_szRat.cons := consOk_cons m_laws_szBigInt (callable_of Try.func55 (by kernel_rfl)) (consOk_cons m_laws_szIntS (callable_of Try.func56 (by kernel_rfl)) (consOk_nil))
theorem loops_laws_szRat : loopsIn code_laws_szRat = [] := by kernel_rfl
theorem m_laws_szRat : Meets Try.prog 46 c_laws_szRat := meets_of (E := E_laws_szRat) (code := code_laws_szRat) mix lay_ok cons_laws_szRat Try.func46 (by kernel_rfl) sg_laws_szRat (by kernel_rfl) (fun y => y.1) c_laws_szRat.out (fun _ => rfl) c_laws_szRat.run (fun x => by kernel_rfl) (by kernel_rfl) (loops_mem loops_laws_szRat (trivial))

noncomputable def sg_laws_szObservation : Sig := ⟨[(true, [.int .i64, .int .i64, .int .i64, .bool, .sl .int, .sl .int, .bool, .sl .int, .sl .int]), (false, [.int .i64])], false, [(false, [.data (.int .i64)])]⟩
noncomputable def c_laws_szObservation : Con := ⟨sg_laws_szObservation, Int, fun x => M_laws_szObservation (⟨x.1, x.2.1, x.2.2.1, (⟨x.2.2.2.1, x.2.2.2.2.1, x.2.2.2.2.2.1⟩ : Rt), (⟨x.2.2.2.2.2.2.1, x.2.2.2.2.2.2.2.1, x.2.2.2.2.2.2.2.2.1⟩ : Rt)⟩ : Obs) x.2.2.2.2.2.2.2.2.2.1, fun r => (r, ())⟩
noncomputable def code_laws_szObservation : Code := Try.f31.body.getD .skip
noncomputable def E_laws_szObservation : Env := ⟨lay, [(46, c_laws_szRat)], [], []⟩
theorem cons_laws_szObservation : ConsOk Try.prog E_laws_szObservation.cons := consOk_cons m_laws_szRat (callable_of Try.func46 (by kernel_rfl)) (consOk_nil)
theorem loops_laws_szObservation : loopsIn code_laws_szObservation = [] := by kernel_rfl
theorem m_laws_szObservation : Meets Try.prog 31 c_laws_szObservation := meets_of (E := E_laws_szObservation) (code := code_laws_szObservation) mix lay_ok cons_laws_szObservation Try.func31 (by kernel_rfl) sg_laws_szObservation (by kernel_rfl) (fun y => y.1) c_laws_szObservation.out (fun _ => rfl) c_laws_szObservation.run (fun x => by kernel_rfl) (by kernel_rfl) (loops_mem loops_laws_szObservation (trivial))

noncomputable def sg_laws_szObservationS : Sig := ⟨[(false, [.sl .obs]), (false, [.int .i64])], false, [(false, [.data (.int .i64)])]⟩
noncomputable def c_laws_szObservationS : Con := ⟨sg_laws_szObservationS, Int, fun x => M_laws_szObservationS x.1 x.2.1, fun r => (r, ())⟩
noncomputable def code_laws_szObservationS : Code := Try.f13.body.getD .skip
noncomputable def body_laws_szObservationS_0 : Code := (loopsIn code_laws_szObservationS).getD 0 .skip
noncomputable def D_laws_szObservationS_0 : LoopD := ⟨⟨mkSlots [(0, false, [.d (.sl .obs)]), (1, false, [.d (.int .i64)]), (5, false, [.d (.int .i64)])] 27 0, []⟩, [], [(.ret, ⟨mkSlots [(4, false, [.d (.int .i64)])] 27 0, []⟩, []), (.exit 0, ⟨mkSlots [(1, false, [.d (.int .i64)])] 27 0, []⟩, [])]⟩
noncomputable def S_laws_szObservationS_0_w (x : Tys D_laws_szObservationS_0.head.ks) : Option (OutT D_laws_szObservationS_0.outs) := @whileO ((List Obs) × Int × Int × Unit) ((Int × Unit) ⊕ (Int × Unit)) S_laws_szObservationS_0 x
noncomputable def E_laws_szObservationS : Env := ⟨lay, [(31, c_laws_szObservation)], [(5, mkLM D_laws_szObservationS_0 S_laws_szObservationS_0_w)], []⟩
theorem cons_laws_szObservationS : ConsOk Try.prog E_laws_szObservationS.cons := consOk_cons m_laws_szObservation (callable_of Try.func31 (by kernel_rfl)) (consOk_nil)
theorem S_laws_szObservationS_0_ok (x : Tys D_laws_szObservationS_0.head.ks) : stepL E_laws_szObservationS D_laws_szObservationS_0 body_laws_szObservationS_0 x = S_laws_szObservationS_0 x := by kernel_rfl
theorem loops_laws_szObservationS_0 : loopsIn body_laws_szObservationS_0 = [] := by kernel_rfl
theorem l_laws_szObservationS_0 : LoopOk Try.prog (mkLM D_laws_szObservationS_0 S_laws_szObservationS_0_w) body_laws_szObservationS_0 := loop_ok2 mix lay_ok cons_laws_szObservationS (by kernel_rfl) (loops_mem loops_laws_szObservationS_0 (trivial)) S_laws_szObservationS_0_ok fun _ _ h => h
theorem loops_laws_szObservationS : loopsIn code_laws_szObservationS = [body_laws_szObservationS_0] := by kernel_rfl
theorem m_laws_szObservationS : Meets Try.prog 13 c_laws_szObservationS := meets_of (E := E_laws_szObservationS) (code := code_laws_szObservationS) mix lay_ok cons_laws_szObservationS Try.func13 (by kernel_rfl) sg_laws_szObservationS (by kernel_rfl) (fun y => y.1) c_laws_szObservationS.out (fun _ => rfl) c_laws_szObservationS.run (fun x => by kernel_rfl) (by kernel_rfl) (loops_mem loops_laws_szObservationS (⟨⟨_, by kernel_rfl, l_laws_szObservationS_0⟩, trivial⟩))

noncomputable def sg_laws_toIntS : Sig := ⟨[(false, [.sl .int])], false, [(false, [.fresh .int])]⟩
noncomputable def c_laws_toIntS : Con := ⟨sg_laws_toIntS, List Int, fun x => M_laws_toIntS x.1, fun r => (r, ())⟩
noncomputable def code_laws_toIntS : Code := Try.f58.body.getD .skip
noncomputable def body_laws_toIntS_0 : Code := (loopsIn code_laws_toIntS).getD 0 .skip
noncomputable def D_laws_toIntS_0 : LoopD := ⟨⟨mkSlots [(0, false, [.d (.sl .int)]), (3, false, [.own 736]), (4, false, [.d (.int .i64)])] 22 0, [(736, .arr false .int)]⟩, [], [(.exit 0, ⟨mkSlots [(3, false, [.own 736])] 22 0, [(736, .arr false .int)]⟩, [])]⟩
noncomputable def S_laws_toIntS_0_w (x : Tys D_laws_toIntS_0.head.ks) : Option (OutT D_laws_toIntS_0.outs) := @whileO ((List Int) × Int × (List Int) × Unit) ((List Int) × Unit) S_laws_toIntS_0 x
noncomputable def E_laws_toIntS : Env := ⟨lay, [], [(3, mkLM D_laws_toIntS_0 S_laws_toIntS_0_w)], []⟩
theorem cons_laws_toIntS : ConsOk Try.prog E_laws_toIntS.cons := consOk_nil
theorem S_laws_toIntS_0_ok (x : Tys D_laws_toIntS_0.head.ks) : stepL E_laws_toIntS D_laws_toIntS_0 body_laws_toIntS_0 x = S_laws_toIntS_0 x := by kernel_rfl
theorem loops_laws_toIntS_0 : loopsIn body_laws_toIntS_0 = [] := by kernel_rfl
theorem l_laws_toIntS_0 : LoopOk Try.prog (mkLM D_laws_toIntS_0 S_laws_toIntS_0_w) body_laws_toIntS_0 := loop_ok2 mix lay_ok cons_laws_toIntS (by kernel_rfl) (loops_mem loops_laws_toIntS_0 (trivial)) S_laws_toIntS_0_ok fun _ _ h => h
theorem loops_laws_toIntS : loopsIn code_laws_toIntS = [body_laws_toIntS_0] := by kernel_rfl
theorem m_laws_toIntS : Meets Try.prog 58 c_laws_toIntS := meets_of (E := E_laws_toIntS) (code := code_laws_toIntS) mix lay_ok cons_laws_toIntS Try.func58 (by kernel_rfl) sg_laws_toIntS (by kernel_rfl) (fun y => y.1) c_laws_toIntS.out (fun _ => rfl) c_laws_toIntS.run (fun x => by kernel_rfl) (by kernel_rfl) (loops_mem loops_laws_toIntS (⟨⟨_, by kernel_rfl, l_laws_toIntS_0⟩, trivial⟩))

noncomputable def sg_laws_toBigInt : Sig := ⟨[(true, [.bool, .sl .int])], false, [(true, [.data (.bool), .fresh .int])]⟩
noncomputable def c_laws_toBigInt : Con := ⟨sg_laws_toBigInt, Bg, fun x => M_laws_toBigInt (⟨x.1, x.2.1⟩ : Bg), fun r => (r.neg, r.mag, ())⟩
noncomputable def code_laws_toBigInt : Code := Try.f57.body.getD .skip
noncomputable def E_laws_toBigInt : Env := ⟨lay, [(58, c_laws_toIntS)], [], []⟩
theorem cons_laws_toBigInt : ConsOk Try.prog E_laws_toBigInt.cons := consOk_cons m_laws_toIntS (callable_of Try.func58 (by kernel_rfl)) (consOk_nil)
theorem loops_laws_toBigInt : loopsIn code_laws_toBigInt = [] := by kernel_rfl
theorem m_laws_toBigInt : Meets Try.prog 57 c_laws_toBigInt := meets_of (E := E_laws_toBigInt) (code := code_laws_toBigInt) mix lay_ok cons_laws_toBigInt Try.func57 (by kernel_rfl) sg_laws_toBigInt (by kernel_rfl) (fun y => (⟨y.1, y.2.1⟩ : Bg)) c_laws_toBigInt.out (fun _ => rfl) c_laws_toBigInt.run (fun x => by kernel_rfl) (by kernel_rfl) (loops_mem loops_laws_toBigInt (trivial))

noncomputable def sg_laws_toRat : Sig := ⟨[(true, [.bool, .sl .int, .sl .int])], false, [(true, [.data (.bool), .fresh .int, .fresh .int])]⟩
noncomputable def c_laws_toRat : Con := ⟨sg_laws_toRat, Rt, fun x => M_laws_toRat (⟨x.1, x.2.1, x.2.2.1⟩ : Rt), fun r => (r.neg, r.mag, r.den, ())⟩
noncomputable def code_laws_toRat : Code := Try.f47.body.getD .skip
noncomputable def E_laws_toRat : Env := ⟨lay, [(57, c_laws_toBigInt), (58, c_laws_toIntS)], [], []⟩
theorem cons_laws_toRat : ConsOk Try.prog E_laws_toRat.cons := consOk_cons m_laws_toBigInt (callable_of Try.func57 (by kernel_rfl)) (consOk_cons m_laws_toIntS (callable_of Try.func58 (by kernel_rfl)) (consOk_nil))
theorem loops_laws_toRat : loopsIn code_laws_toRat = [] := by kernel_rfl
theorem m_laws_toRat : Meets Try.prog 47 c_laws_toRat := meets_of (E := E_laws_toRat) (code := code_laws_toRat) mix lay_ok cons_laws_toRat Try.func47 (by kernel_rfl) sg_laws_toRat (by kernel_rfl) (fun y => (⟨y.1, y.2.1, y.2.2.1⟩ : Rt)) c_laws_toRat.out (fun _ => rfl) c_laws_toRat.run (fun x => by kernel_rfl) (by kernel_rfl) (loops_mem loops_laws_toRat (trivial))

noncomputable def sg_laws_toObservation : Sig := ⟨[(true, [.int .i64, .int .i64, .int .i64, .bool, .sl .int, .sl .int, .bool, .sl .int, .sl .int])], false, [(true, [.data (.int .i64), .data (.int .i64), .data (.int .i64), .data (.bool), .fresh .int, .fresh .int, .data (.bool), .fresh .int, .fresh .int])]⟩
noncomputable def c_laws_toObservation : Con := ⟨sg_laws_toObservation, Obs, fun x => M_laws_toObservation (⟨x.1, x.2.1, x.2.2.1, (⟨x.2.2.2.1, x.2.2.2.2.1, x.2.2.2.2.2.1⟩ : Rt), (⟨x.2.2.2.2.2.2.1, x.2.2.2.2.2.2.2.1, x.2.2.2.2.2.2.2.2.1⟩ : Rt)⟩ : Obs), fun r => (r.kind, r.frm, r.to, r.value.neg, r.value.mag, r.value.den, r.variance.neg, r.variance.mag, r.variance.den, ())⟩
noncomputable def code_laws_toObservation : Code := Try.f33.body.getD .skip
noncomputable def E_laws_toObservation : Env := ⟨lay, [(47, c_laws_toRat)], [], []⟩
theorem cons_laws_toObservation : ConsOk Try.prog E_laws_toObservation.cons := consOk_cons m_laws_toRat (callable_of Try.func47 (by kernel_rfl)) (consOk_nil)
theorem loops_laws_toObservation : loopsIn code_laws_toObservation = [] := by kernel_rfl
theorem m_laws_toObservation : Meets Try.prog 33 c_laws_toObservation := meets_of (E := E_laws_toObservation) (code := code_laws_toObservation) mix lay_ok cons_laws_toObservation Try.func33 (by kernel_rfl) sg_laws_toObservation (by kernel_rfl) (fun y => (⟨y.1, y.2.1, y.2.2.1, (⟨y.2.2.2.1, y.2.2.2.2.1, y.2.2.2.2.2.1⟩ : Rt), (⟨y.2.2.2.2.2.2.1, y.2.2.2.2.2.2.2.1, y.2.2.2.2.2.2.2.2.1⟩ : Rt)⟩ : Obs)) c_laws_toObservation.out (fun _ => rfl) c_laws_toObservation.run (fun x => by kernel_rfl) (by kernel_rfl) (loops_mem loops_laws_toObservation (trivial))

noncomputable def sg_laws_toObservationS : Sig := ⟨[(false, [.sl .obs])], false, [(false, [.fresh .obs])]⟩
noncomputable def c_laws_toObservationS : Con := ⟨sg_laws_toObservationS, List Obs, fun x => M_laws_toObservationS x.1, fun r => (r, ())⟩
noncomputable def code_laws_toObservationS : Code := Try.f15.body.getD .skip
noncomputable def body_laws_toObservationS_0 : Code := (loopsIn code_laws_toObservationS).getD 0 .skip
noncomputable def D_laws_toObservationS_0 : LoopD := ⟨⟨mkSlots [(0, false, [.d (.sl .obs)]), (3, false, [.own 768]), (4, false, [.d (.int .i64)])] 23 0, [(768, .arr false .obs)]⟩, [], [(.exit 0, ⟨mkSlots [(3, false, [.own 768])] 23 0, [(768, .arr false .obs)]⟩, [])]⟩
noncomputable def S_laws_toObservationS_0_w (x : Tys D_laws_toObservationS_0.head.ks) : Option (OutT D_laws_toObservationS_0.outs) := @whileO ((List Obs) × Int × (List Obs) × Unit) ((List Obs) × Unit) S_laws_toObservationS_0 x
noncomputable def E_laws_toObservationS : Env := ⟨lay, [(33, c_laws_toObservation)], [(3, mkLM D_laws_toObservationS_0 S_laws_toObservationS_0_w)], []⟩
theorem cons_laws_toObservationS : ConsOk Try.prog E_laws_toObservationS.cons := consOk_cons m_laws_toObservation (callable_of Try.func33 (by kernel_rfl)) (consOk_nil)
theorem S_laws_toObservationS_0_ok (x : Tys D_laws_toObservationS_0.head.ks) : stepL E_laws_toObservationS D_laws_toObservationS_0 body_laws_toObservationS_0 x = S_laws_toObservationS_0 x := by kernel_rfl
theorem loops_laws_toObservationS_0 : loopsIn body_laws_toObservationS_0 = [] := by kernel_rfl
theorem l_laws_toObservationS_0 : LoopOk Try.prog (mkLM D_laws_toObservationS_0 S_laws_toObservationS_0_w) body_laws_toObservationS_0 := loop_ok2 mix lay_ok cons_laws_toObservationS (by kernel_rfl) (loops_mem loops_laws_toObservationS_0 (trivial)) S_laws_toObservationS_0_ok fun _ _ h => h
theorem loops_laws_toObservationS : loopsIn code_laws_toObservationS = [body_laws_toObservationS_0] := by kernel_rfl
theorem m_laws_toObservationS : Meets Try.prog 15 c_laws_toObservationS := meets_of (E := E_laws_toObservationS) (code := code_laws_toObservationS) mix lay_ok cons_laws_toObservationS Try.func15 (by kernel_rfl) sg_laws_toObservationS (by kernel_rfl) (fun y => y.1) c_laws_toObservationS.out (fun _ => rfl) c_laws_toObservationS.run (fun x => by kernel_rfl) (by kernel_rfl) (loops_mem loops_laws_toObservationS (⟨⟨_, by kernel_rfl, l_laws_toObservationS_0⟩, trivial⟩))

noncomputable def sg_spec_l13First : Sig := ⟨[(false, [.sl .obs]), (false, [.int .i64])], false, [(false, [.data (.int .i64)])]⟩
noncomputable def c_spec_l13First : Con := ⟨sg_spec_l13First, Int, fun x => M_spec_l13First x.1 x.2.1, fun r => (r, ())⟩
noncomputable def code_spec_l13First : Code := Try.f32.body.getD .skip
noncomputable def body_spec_l13First_0 : Code := (loopsIn code_spec_l13First).getD 0 .skip
noncomputable def D_spec_l13First_0 : LoopD := ⟨⟨mkSlots [(0, false, [.d (.sl .obs)]), (1, false, [.d (.int .i64)]), (5, false, [.d (.int .i64)])] 58 0, []⟩, [], [(.ret, ⟨mkSlots [(4, false, [.d (.int .i64)])] 58 0, []⟩, []), (.exit 0, ⟨mkSlots [(1, false, [.d (.int .i64)])] 58 0, []⟩, [])]⟩
noncomputable def S_spec_l13First_0_w (x : Tys D_spec_l13First_0.head.ks) : Option (OutT D_spec_l13First_0.outs) := @whileO ((List Obs) × Int × Int × Unit) ((Int × Unit) ⊕ (Int × Unit)) S_spec_l13First_0 x
noncomputable def E_spec_l13First : Env := ⟨lay, [], [(2, mkLM D_spec_l13First_0 S_spec_l13First_0_w)], [(4, [(0, []), (1, []), (2, []), (3, []), (4, []), (5, []), (6, []), (7, []), (8, []), (9, []), (10, []), (11, []), (12, []), (13, []), (14, []), (15, []), (16, []), (17, []), (18, []), (19, []), (20, []), (21, []), (22, []), (23, []), (24, []), (25, []), (26, []), (27, []), (28, []), (29, []), (30, []), (31, []), (32, []), (33, []), (34, []), (35, []), (36, []), (37, []), (38, []), (39, []), (40, []), (41, []), (42, []), (43, []), (44, [])])]⟩
theorem cons_spec_l13First : ConsOk Try.prog E_spec_l13First.cons := consOk_nil
theorem S_spec_l13First_0_ok (x : Tys D_spec_l13First_0.head.ks) : stepL E_spec_l13First D_spec_l13First_0 body_spec_l13First_0 x = S_spec_l13First_0 x := by kernel_rfl
theorem loops_spec_l13First_0 : loopsIn body_spec_l13First_0 = [] := by kernel_rfl
theorem l_spec_l13First_0 : LoopOk Try.prog (mkLM D_spec_l13First_0 S_spec_l13First_0_w) body_spec_l13First_0 := loop_ok2 mix lay_ok cons_spec_l13First (by kernel_rfl) (loops_mem loops_spec_l13First_0 (trivial)) S_spec_l13First_0_ok fun _ _ h => h
theorem loops_spec_l13First : loopsIn code_spec_l13First = [body_spec_l13First_0] := by kernel_rfl
theorem m_spec_l13First : Meets Try.prog 32 c_spec_l13First := meets_of (E := E_spec_l13First) (code := code_spec_l13First) mix lay_ok cons_spec_l13First Try.func32 (by kernel_rfl) sg_spec_l13First (by kernel_rfl) (fun y => y.1) c_spec_l13First.out (fun _ => rfl) c_spec_l13First.run (fun x => by kernel_rfl) (by kernel_rfl) (loops_mem loops_spec_l13First (⟨⟨_, by kernel_rfl, l_spec_l13First_0⟩, trivial⟩))

noncomputable def sg_spec_CountRepeats : Sig := ⟨[(false, [.sl .obs])], false, [(false, [.data (.int .i64)])]⟩
noncomputable def c_spec_CountRepeats : Con := ⟨sg_spec_CountRepeats, Int, fun x => M_spec_CountRepeats x.1, fun r => (r, ())⟩
noncomputable def code_spec_CountRepeats : Code := Try.f14.body.getD .skip
noncomputable def body_spec_CountRepeats_0 : Code := (loopsIn code_spec_CountRepeats).getD 0 .skip
noncomputable def D_spec_CountRepeats_0 : LoopD := ⟨⟨mkSlots [(0, false, [.d (.sl .obs)]), (3, false, [.d (.int .i64)]), (6, false, [.d (.int .i64)]), (7, false, [.d (.int .i64)])] 19 0, []⟩, [], [(.exit 0, ⟨mkSlots [(3, false, [.d (.int .i64)])] 19 0, []⟩, [])]⟩
noncomputable def S_spec_CountRepeats_0_w (x : Tys D_spec_CountRepeats_0.head.ks) : Option (OutT D_spec_CountRepeats_0.outs) := @whileO ((List Obs) × Int × Int × Int × Unit) (Int × Unit) S_spec_CountRepeats_0 x
noncomputable def E_spec_CountRepeats : Env := ⟨lay, [(32, c_spec_l13First)], [(3, mkLM D_spec_CountRepeats_0 S_spec_CountRepeats_0_w)], []⟩
theorem cons_spec_CountRepeats : ConsOk Try.prog E_spec_CountRepeats.cons := consOk_cons m_spec_l13First (callable_of Try.func32 (by kernel_rfl)) (consOk_nil)
theorem S_spec_CountRepeats_0_ok (x : Tys D_spec_CountRepeats_0.head.ks) : stepL E_spec_CountRepeats D_spec_CountRepeats_0 body_spec_CountRepeats_0 x = S_spec_CountRepeats_0 x := by kernel_rfl
theorem loops_spec_CountRepeats_0 : loopsIn body_spec_CountRepeats_0 = [] := by kernel_rfl
theorem l_spec_CountRepeats_0 : LoopOk Try.prog (mkLM D_spec_CountRepeats_0 S_spec_CountRepeats_0_w) body_spec_CountRepeats_0 := loop_ok2 mix lay_ok cons_spec_CountRepeats (by kernel_rfl) (loops_mem loops_spec_CountRepeats_0 (trivial)) S_spec_CountRepeats_0_ok fun _ _ h => h
theorem loops_spec_CountRepeats : loopsIn code_spec_CountRepeats = [body_spec_CountRepeats_0] := by kernel_rfl
theorem m_spec_CountRepeats : Meets Try.prog 14 c_spec_CountRepeats := meets_of (E := E_spec_CountRepeats) (code := code_spec_CountRepeats) mix lay_ok cons_spec_CountRepeats Try.func14 (by kernel_rfl) sg_spec_CountRepeats (by kernel_rfl) (fun y => y.1) c_spec_CountRepeats.out (fun _ => rfl) c_spec_CountRepeats.run (fun x => by kernel_rfl) (by kernel_rfl) (loops_mem loops_spec_CountRepeats (⟨⟨_, by kernel_rfl, l_spec_CountRepeats_0⟩, trivial⟩))

noncomputable def sg_impl_alike : Sig := ⟨[(true, [.int .i64, .int .i64, .int .i64, .bool, .sl .int, .sl .int, .bool, .sl .int, .sl .int]), (true, [.int .i64, .int .i64, .int .i64, .bool, .sl .int, .sl .int, .bool, .sl .int, .sl .int])], false, [(false, [.data (.bool)])]⟩
noncomputable def c_impl_alike : Con := ⟨sg_impl_alike, Bool, fun x => M_impl_alike (⟨x.1, x.2.1, x.2.2.1, (⟨x.2.2.2.1, x.2.2.2.2.1, x.2.2.2.2.2.1⟩ : Rt), (⟨x.2.2.2.2.2.2.1, x.2.2.2.2.2.2.2.1, x.2.2.2.2.2.2.2.2.1⟩ : Rt)⟩ : Obs) (⟨x.2.2.2.2.2.2.2.2.2.1, x.2.2.2.2.2.2.2.2.2.2.1, x.2.2.2.2.2.2.2.2.2.2.2.1, (⟨x.2.2.2.2.2.2.2.2.2.2.2.2.1, x.2.2.2.2.2.2.2.2.2.2.2.2.2.1, x.2.2.2.2.2.2.2.2.2.2.2.2.2.2.1⟩ : Rt), (⟨x.2.2.2.2.2.2.2.2.2.2.2.2.2.2.2.1, x.2.2.2.2.2.2.2.2.2.2.2.2.2.2.2.2.1, x.2.2.2.2.2.2.2.2.2.2.2.2.2.2.2.2.2.1⟩ : Rt)⟩ : Obs), fun r => (r, ())⟩
noncomputable def code_impl_alike : Code := Try.f48.body.getD .skip
noncomputable def E_impl_alike : Env := ⟨lay, [], [], []⟩
theorem cons_impl_alike : ConsOk Try.prog E_impl_alike.cons := consOk_nil
theorem loops_impl_alike : loopsIn code_impl_alike = [] := by kernel_rfl
theorem m_impl_alike : Meets Try.prog 48 c_impl_alike := meets_of (E := E_impl_alike) (code := code_impl_alike) mix lay_ok cons_impl_alike Try.func48 (by kernel_rfl) sg_impl_alike (by kernel_rfl) (fun y => y.1) c_impl_alike.out (fun _ => rfl) c_impl_alike.run (fun x => by kernel_rfl) (by kernel_rfl) (loops_mem loops_impl_alike (trivial))

noncomputable def sg_impl_isRepeat : Sig := ⟨[(false, [.sl .obs]), (false, [.int .i64])], false, [(false, [.data (.bool)])]⟩
noncomputable def c_impl_isRepeat : Con := ⟨sg_impl_isRepeat, Bool, fun x => M_impl_isRepeat x.1 x.2.1, fun r => (r, ())⟩
noncomputable def code_impl_isRepeat : Code := Try.f34.body.getD .skip
noncomputable def body_impl_isRepeat_0 : Code := (loopsIn code_impl_isRepeat).getD 0 .skip
noncomputable def D_impl_isRepeat_0 : LoopD := ⟨⟨mkSlots [(0, false, [.d (.sl .obs)]), (1, false, [.d (.int .i64)]), (9, false, [.d (.sl .obs)]), (10, false, [.d (.int .i64)]), (11, false, [.d (.int .i64)])] 22 0, []⟩, [], [(.ret, ⟨mkSlots [(4, false, [.d (.bool)])] 22 0, []⟩, []), (.exit 0, ⟨mkSlots [] 22 0, []⟩, [])]⟩
noncomputable def S_impl_isRepeat_0_w (x : Tys D_impl_isRepeat_0.head.ks) : Option (OutT D_impl_isRepeat_0.outs) := @whileO ((List Obs) × Int × (List Obs) × Int × Int × Unit) ((Bool × Unit) ⊕ (Unit)) S_impl_isRepeat_0 x
noncomputable def E_impl_isRepeat : Env := ⟨lay, [(48, c_impl_alike)], [(2, mkLM D_impl_isRepeat_0 S_impl_isRepeat_0_w)], [(4, [(0, []), (1, []), (2, []), (3, []), (4, []), (5, [0, 4, 3, 1, 2])])]⟩
theorem cons_impl_isRepeat : ConsOk Try.prog E_impl_isRepeat.cons := consOk_cons m_impl_alike (callable_of Try.func48 (by kernel_rfl)) (consOk_nil)
theorem S_impl_isRepeat_0_ok (x : Tys D_impl_isRepeat_0.head.ks) : stepL E_impl_isRepeat D_impl_isRepeat_0 body_impl_isRepeat_0 x = S_impl_isRepeat_0 x := by kernel_rfl
theorem loops_impl_isRepeat_0 : loopsIn body_impl_isRepeat_0 = [] := by kernel_rfl
theorem l_impl_isRepeat_0 : LoopOk Try.prog (mkLM D_impl_isRepeat_0 S_impl_isRepeat_0_w) body_impl_isRepeat_0 := loop_ok2 mix lay_ok cons_impl_isRepeat (by kernel_rfl) (loops_mem loops_impl_isRepeat_0 (trivial)) S_impl_isRepeat_0_ok fun _ _ h => h
theorem loops_impl_isRepeat : loopsIn code_impl_isRepeat = [body_impl_isRepeat_0] := by kernel_rfl
theorem m_impl_isRepeat : Meets Try.prog 34 c_impl_isRepeat := meets_of (E := E_impl_isRepeat) (code := code_impl_isRepeat) mix lay_ok cons_impl_isRepeat Try.func34 (by kernel_rfl) sg_impl_isRepeat (by kernel_rfl) (fun y => y.1) c_impl_isRepeat.out (fun _ => rfl) c_impl_isRepeat.run (fun x => by kernel_rfl) (by kernel_rfl) (loops_mem loops_impl_isRepeat (⟨⟨_, by kernel_rfl, l_impl_isRepeat_0⟩, trivial⟩))

noncomputable def sg_impl_CountRepeats : Sig := ⟨[(false, [.sl .obs])], false, [(false, [.data (.int .i64)])]⟩
noncomputable def c_impl_CountRepeats : Con := ⟨sg_impl_CountRepeats, Int, fun x => M_impl_CountRepeats x.1, fun r => (r, ())⟩
noncomputable def code_impl_CountRepeats : Code := Try.f16.body.getD .skip
noncomputable def body_impl_CountRepeats_0 : Code := (loopsIn code_impl_CountRepeats).getD 0 .skip
noncomputable def D_impl_CountRepeats_0 : LoopD := ⟨⟨mkSlots [(0, false, [.d (.sl .obs)]), (3, false, [.d (.int .i64)]), (6, false, [.d (.int .i64)]), (7, false, [.d (.int .i64)])] 17 0, []⟩, [], [(.exit 0, ⟨mkSlots [(3, false, [.d (.int .i64)])] 17 0, []⟩, [])]⟩
noncomputable def S_impl_CountRepeats_0_w (x : Tys D_impl_CountRepeats_0.head.ks) : Option (OutT D_impl_CountRepeats_0.outs) := @whileO ((List Obs) × Int × Int × Int × Unit) (Int × Unit) S_impl_CountRepeats_0 x
noncomputable def E_impl_CountRepeats : Env := ⟨lay, [(34, c_impl_isRepeat)], [(3, mkLM D_impl_CountRepeats_0 S_impl_CountRepeats_0_w)], []⟩
theorem cons_impl_CountRepeats : ConsOk Try.prog E_impl_CountRepeats.cons := consOk_cons m_impl_isRepeat (callable_of Try.func34 (by kernel_rfl)) (consOk_nil)
theorem S_impl_CountRepeats_0_ok (x : Tys D_impl_CountRepeats_0.head.ks) : stepL E_impl_CountRepeats D_impl_CountRepeats_0 body_impl_CountRepeats_0 x = S_impl_CountRepeats_0 x := by kernel_rfl
theorem loops_impl_CountRepeats_0 : loopsIn body_impl_CountRepeats_0 = [] := by kernel_rfl
theorem l_impl_CountRepeats_0 : LoopOk Try.prog (mkLM D_impl_CountRepeats_0 S_impl_CountRepeats_0_w) body_impl_CountRepeats_0 := loop_ok2 mix lay_ok cons_impl_CountRepeats (by kernel_rfl) (loops_mem loops_impl_CountRepeats_0 (trivial)) S_impl_CountRepeats_0_ok fun _ _ h => h
theorem loops_impl_CountRepeats : loopsIn code_impl_CountRepeats = [body_impl_CountRepeats_0] := by kernel_rfl
theorem m_impl_CountRepeats : Meets Try.prog 16 c_impl_CountRepeats := meets_of (E := E_impl_CountRepeats) (code := code_impl_CountRepeats) mix lay_ok cons_impl_CountRepeats Try.func16 (by kernel_rfl) sg_impl_CountRepeats (by kernel_rfl) (fun y => y.1) c_impl_CountRepeats.out (fun _ => rfl) c_impl_CountRepeats.run (fun x => by kernel_rfl) (by kernel_rfl) (loops_mem loops_impl_CountRepeats (⟨⟨_, by kernel_rfl, l_impl_CountRepeats_0⟩, trivial⟩))

noncomputable def sg_laws_eqIntS : Sig := ⟨[(false, [.sl .int]), (false, [.sl .int])], false, [(false, [.data (.bool)])]⟩
noncomputable def c_laws_eqIntS : Con := ⟨sg_laws_eqIntS, Bool, fun x => M_laws_eqIntS x.1 x.2.1, fun r => (r, ())⟩
noncomputable def code_laws_eqIntS : Code := Try.f60.body.getD .skip
noncomputable def body_laws_eqIntS_0 : Code := (loopsIn code_laws_eqIntS).getD 0 .skip
noncomputable def D_laws_eqIntS_0 : LoopD := ⟨⟨mkSlots [(0, false, [.d (.sl .int)]), (1, false, [.d (.sl .int)]), (5, false, [.d (.int .i64)])] 26 0, []⟩, [], [(.ret, ⟨mkSlots [(4, false, [.d (.bool)])] 26 0, []⟩, []), (.exit 0, ⟨mkSlots [] 26 0, []⟩, [])]⟩
noncomputable def S_laws_eqIntS_0_w (x : Tys D_laws_eqIntS_0.head.ks) : Option (OutT D_laws_eqIntS_0.outs) := @whileO ((List Int) × (List Int) × Int × Unit) ((Bool × Unit) ⊕ (Unit)) S_laws_eqIntS_0 x
noncomputable def E_laws_eqIntS : Env := ⟨lay, [], [(4, mkLM D_laws_eqIntS_0 S_laws_eqIntS_0_w)], [(6, [(0, []), (1, []), (2, []), (3, []), (4, []), (5, []), (6, []), (7, []), (8, [])])]⟩
theorem cons_laws_eqIntS : ConsOk Try.prog E_laws_eqIntS.cons := consOk_nil
theorem S_laws_eqIntS_0_ok (x : Tys D_laws_eqIntS_0.head.ks) : stepL E_laws_eqIntS D_laws_eqIntS_0 body_laws_eqIntS_0 x = S_laws_eqIntS_0 x := by kernel_rfl
theorem loops_laws_eqIntS_0 : loopsIn body_laws_eqIntS_0 = [] := by kernel_rfl
theorem l_laws_eqIntS_0 : LoopOk Try.prog (mkLM D_laws_eqIntS_0 S_laws_eqIntS_0_w) body_laws_eqIntS_0 := loop_ok2 mix lay_ok cons_laws_eqIntS (by kernel_rfl) (loops_mem loops_laws_eqIntS_0 (trivial)) S_laws_eqIntS_0_ok fun _ _ h => h
theorem loops_laws_eqIntS : loopsIn code_laws_eqIntS = [body_laws_eqIntS_0] := by kernel_rfl
theorem m_laws_eqIntS : Meets Try.prog 60 c_laws_eqIntS := meets_of (E := E_laws_eqIntS) (code := code_laws_eqIntS) mix lay_ok cons_laws_eqIntS Try.func60 (by kernel_rfl) sg_laws_eqIntS (by kernel_rfl) (fun y => y.1) c_laws_eqIntS.out (fun _ => rfl) c_laws_eqIntS.run (fun x => by kernel_rfl) (by kernel_rfl) (loops_mem loops_laws_eqIntS (⟨⟨_, by kernel_rfl, l_laws_eqIntS_0⟩, trivial⟩))

noncomputable def sg_laws_eqBigInt : Sig := ⟨[(true, [.bool, .sl .int]), (true, [.bool, .sl .int])], false, [(false, [.data (.bool)])]⟩
noncomputable def c_laws_eqBigInt : Con := ⟨sg_laws_eqBigInt, Bool, fun x => M_laws_eqBigInt (⟨x.1, x.2.1⟩ : Bg) (⟨x.2.2.1, x.2.2.2.1⟩ : Bg), fun r => (r, ())⟩
noncomputable def code_laws_eqBigInt : Code := Try.f59.body.getD .skip
noncomputable def E_laws_eqBigInt : Env := ⟨lay, [(60, c_laws_eqIntS)], [], []⟩
theorem cons_laws_eqBigInt : ConsOk Try.prog E_laws_eqBigInt.cons := consOk_cons m_laws_eqIntS (callable_of Try.func60 (by kernel_rfl)) (consOk_nil)
theorem loops_laws_eqBigInt : loopsIn code_laws_eqBigInt = [] := by kernel_rfl
theorem m_laws_eqBigInt : Meets Try.prog 59 c_laws_eqBigInt := meets_of (E := E_laws_eqBigInt) (code := code_laws_eqBigInt) mix lay_ok cons_laws_eqBigInt Try.func59 (by kernel_rfl) sg_laws_eqBigInt (by kernel_rfl) (fun y => y.1) c_laws_eqBigInt.out (fun _ => rfl) c_laws_eqBigInt.run (fun x => by kernel_rfl) (by kernel_rfl) (loops_mem loops_laws_eqBigInt (trivial))

noncomputable def sg_laws_eqRat : Sig := ⟨[(true, [.bool, .sl .int, .sl .int]), (true, [.bool, .sl .int, .sl .int])], false, [(false, [.data (.bool)])]⟩
noncomputable def c_laws_eqRat : Con := ⟨sg_laws_eqRat, Bool, fun x => M_laws_eqRat (⟨x.1, x.2.1, x.2.2.1⟩ : Rt) (⟨x.2.2.2.1, x.2.2.2.2.1, x.2.2.2.2.2.1⟩ : Rt), fun r => (r, ())⟩
noncomputable def code_laws_eqRat : Code := Try.f49.body.getD .skip
noncomputable def E_laws_eqRat : Env := ⟨lay, [(59, c_laws_eqBigInt), (60, c_laws_eqIntS)], [], []⟩
theorem cons_laws_eqRat : ConsOk Try.prog E_laws_eqRat.cons := consOk_cons m_laws_eqBigInt (callable_of Try.func59 (by kernel_rfl)) (consOk_cons m_laws_eqIntS (callable_of Try.func60 (by kernel_rfl)) (consOk_nil))
theorem loops_laws_eqRat : loopsIn code_laws_eqRat = [] := by kernel_rfl
theorem m_laws_eqRat : Meets Try.prog 49 c_laws_eqRat := meets_of (E := E_laws_eqRat) (code := code_laws_eqRat) mix lay_ok cons_laws_eqRat Try.func49 (by kernel_rfl) sg_laws_eqRat (by kernel_rfl) (fun y => y.1) c_laws_eqRat.out (fun _ => rfl) c_laws_eqRat.run (fun x => by kernel_rfl) (by kernel_rfl) (loops_mem loops_laws_eqRat (trivial))

noncomputable def sg_laws_eqObservation : Sig := ⟨[(true, [.int .i64, .int .i64, .int .i64, .bool, .sl .int, .sl .int, .bool, .sl .int, .sl .int]), (true, [.int .i64, .int .i64, .int .i64, .bool, .sl .int, .sl .int, .bool, .sl .int, .sl .int])], false, [(false, [.data (.bool)])]⟩
noncomputable def c_laws_eqObservation : Con := ⟨sg_laws_eqObservation, Bool, fun x => M_laws_eqObservation (⟨x.1, x.2.1, x.2.2.1, (⟨x.2.2.2.1, x.2.2.2.2.1, x.2.2.2.2.2.1⟩ : Rt), (⟨x.2.2.2.2.2.2.1, x.2.2.2.2.2.2.2.1, x.2.2.2.2.2.2.2.2.1⟩ : Rt)⟩ : Obs) (⟨x.2.2.2.2.2.2.2.2.2.1, x.2.2.2.2.2.2.2.2.2.2.1, x.2.2.2.2.2.2.2.2.2.2.2.1, (⟨x.2.2.2.2.2.2.2.2.2.2.2.2.1, x.2.2.2.2.2.2.2.2.2.2.2.2.2.1, x.2.2.2.2.2.2.2.2.2.2.2.2.2.2.1⟩ : Rt), (⟨x.2.2.2.2.2.2.2.2.2.2.2.2.2.2.2.1, x.2.2.2.2.2.2.2.2.2.2.2.2.2.2.2.2.1, x.2.2.2.2.2.2.2.2.2.2.2.2.2.2.2.2.2.1⟩ : Rt)⟩ : Obs), fun r => (r, ())⟩
noncomputable def code_laws_eqObservation : Code := Try.f35.body.getD .skip
noncomputable def E_laws_eqObservation : Env := ⟨lay, [(49, c_laws_eqRat)], [], []⟩
theorem cons_laws_eqObservation : ConsOk Try.prog E_laws_eqObservation.cons := consOk_cons m_laws_eqRat (callable_of Try.func49 (by kernel_rfl)) (consOk_nil)
theorem loops_laws_eqObservation : loopsIn code_laws_eqObservation = [] := by kernel_rfl
theorem m_laws_eqObservation : Meets Try.prog 35 c_laws_eqObservation := meets_of (E := E_laws_eqObservation) (code := code_laws_eqObservation) mix lay_ok cons_laws_eqObservation Try.func35 (by kernel_rfl) sg_laws_eqObservation (by kernel_rfl) (fun y => y.1) c_laws_eqObservation.out (fun _ => rfl) c_laws_eqObservation.run (fun x => by kernel_rfl) (by kernel_rfl) (loops_mem loops_laws_eqObservation (trivial))

noncomputable def sg_laws_eqObservationS : Sig := ⟨[(false, [.sl .obs]), (false, [.sl .obs])], false, [(false, [.data (.bool)])]⟩
noncomputable def c_laws_eqObservationS : Con := ⟨sg_laws_eqObservationS, Bool, fun x => M_laws_eqObservationS x.1 x.2.1, fun r => (r, ())⟩
noncomputable def code_laws_eqObservationS : Code := Try.f17.body.getD .skip
noncomputable def body_laws_eqObservationS_0 : Code := (loopsIn code_laws_eqObservationS).getD 0 .skip
noncomputable def D_laws_eqObservationS_0 : LoopD := ⟨⟨mkSlots [(0, false, [.d (.sl .obs)]), (1, false, [.d (.sl .obs)]), (5, false, [.d (.int .i64)])] 27 0, []⟩, [], [(.ret, ⟨mkSlots [(4, false, [.d (.bool)])] 27 0, []⟩, []), (.exit 0, ⟨mkSlots [] 27 0, []⟩, [])]⟩
noncomputable def S_laws_eqObservationS_0_w (x : Tys D_laws_eqObservationS_0.head.ks) : Option (OutT D_laws_eqObservationS_0.outs) := @whileO ((List Obs) × (List Obs) × Int × Unit) ((Bool × Unit) ⊕ (Unit)) S_laws_eqObservationS_0 x
noncomputable def E_laws_eqObservationS : Env := ⟨lay, [(35, c_laws_eqObservation)], [(4, mkLM D_laws_eqObservationS_0 S_laws_eqObservationS_0_w)], [(6, [(0, []), (1, []), (2, []), (3, []), (4, []), (5, []), (6, []), (7, []), (8, [3, 7, 2, 6, 0, 1, 4, 5]), (9, [])])]⟩
theorem cons_laws_eqObservationS : ConsOk Try.prog E_laws_eqObservationS.cons := consOk_cons m_laws_eqObservation (callable_of Try.func35 (by kernel_rfl)) (consOk_nil)
theorem S_laws_eqObservationS_0_ok (x : Tys D_laws_eqObservationS_0.head.ks) : stepL E_laws_eqObservationS D_laws_eqObservationS_0 body_laws_eqObservationS_0 x = S_laws_eqObservationS_0 x := by kernel_rfl
theorem loops_laws_eqObservationS_0 : loopsIn body_laws_eqObservationS_0 = [] := by kernel_rfl
theorem l_laws_eqObservationS_0 : LoopOk Try.prog (mkLM D_laws_eqObservationS_0 S_laws_eqObservationS_0_w) body_laws_eqObservationS_0 := loop_ok2 mix lay_ok cons_laws_eqObservationS (by kernel_rfl) (loops_mem loops_laws_eqObservationS_0 (trivial)) S_laws_eqObservationS_0_ok fun _ _ h => h
theorem loops_laws_eqObservationS : loopsIn code_laws_eqObservationS = [body_laws_eqObservationS_0] := by kernel_rfl
theorem m_laws_eqObservationS : Meets Try.prog 17 c_laws_eqObservationS := meets_of (E := E_laws_eqObservationS) (code := code_laws_eqObservationS) mix lay_ok cons_laws_eqObservationS Try.func17 (by kernel_rfl) sg_laws_eqObservationS (by kernel_rfl) (fun y => y.1) c_laws_eqObservationS.out (fun _ => rfl) c_laws_eqObservationS.run (fun x => by kernel_rfl) (by kernel_rfl) (loops_mem loops_laws_eqObservationS (⟨⟨_, by kernel_rfl, l_laws_eqObservationS_0⟩, trivial⟩))

noncomputable def sg_laws_FnExactCountRepeats : Sig := ⟨[(false, [.sl .obs])], false, [(false, [.data (.bool)])]⟩
noncomputable def c_laws_FnExactCountRepeats : Con := ⟨sg_laws_FnExactCountRepeats, Bool, fun x => M_laws_FnExactCountRepeats x.1, fun r => (r, ())⟩
noncomputable def code_laws_FnExactCountRepeats : Code := Try.f5.body.getD .skip
noncomputable def E_laws_FnExactCountRepeats : Env := ⟨lay, [(13, c_laws_szObservationS), (15, c_laws_toObservationS), (14, c_spec_CountRepeats), (16, c_impl_CountRepeats), (17, c_laws_eqObservationS)], [], []⟩
theorem cons_laws_FnExactCountRepeats : ConsOk Try.prog E_laws_FnExactCountRepeats.cons := consOk_cons m_laws_szObservationS (callable_of Try.func13 (by kernel_rfl)) (consOk_cons m_laws_toObservationS (callable_of Try.func15 (by kernel_rfl)) (consOk_cons m_spec_CountRepeats (callable_of Try.func14 (by kernel_rfl)) (consOk_cons m_impl_CountRepeats (callable_of Try.func16 (by kernel_rfl)) (consOk_cons m_laws_eqObservationS (callable_of Try.func17 (by kernel_rfl)) (consOk_nil)))))
theorem loops_laws_FnExactCountRepeats : loopsIn code_laws_FnExactCountRepeats = [] := by kernel_rfl
theorem m_laws_FnExactCountRepeats : Meets Try.prog 5 c_laws_FnExactCountRepeats := meets_of (E := E_laws_FnExactCountRepeats) (code := code_laws_FnExactCountRepeats) mix lay_ok cons_laws_FnExactCountRepeats Try.func5 (by kernel_rfl) sg_laws_FnExactCountRepeats (by kernel_rfl) (fun y => y.1) c_laws_FnExactCountRepeats.out (fun _ => rfl) c_laws_FnExactCountRepeats.run (fun x => by kernel_rfl) (by kernel_rfl) (loops_mem loops_laws_FnExactCountRepeats (trivial))
end Go.Proofs.Ytalnijffcoppkaa.WCountRepeats
