/-
  Own work: part 9 of the texts that the proof of the given statement leans on.
-/
import Derived.Test.YtkjfphfbpocijaaProg
import Derived.Test.YtkjfphfbpocijaaZWithoutObservationsP00
/-
  Own work, written by program (gen.py): the functions that the statement reaches meet their contracts.
-/
open Go Go.Di Go.Proofs
namespace Go.Proofs.Ytkjfphfbpocijaa.WWithoutObservations
noncomputable def lay : List (TypeId × TI) := [
  (3, ⟨false, [.d (.int .i64 0)], [], none, some (.int .i64), false, false⟩),
  (4, ⟨false, [.d (.bool false)], [], none, some .bool, false, false⟩),
  (22, ⟨false, [.mt], [], some .obs, none, false, false⟩),
  (23, ⟨false, [.mt], [], some .int, none, false, false⟩),
  (25, ⟨false, [.mt], [], some .obs, none, false, false⟩),
  (51, ⟨true, [.d (.bool false), .mt], [(0, 1, false), (1, 1, false)], none, none, true, false⟩),
  (53, ⟨true, [.d (.bool false), .mt, .mt], [(0, 2, true), (2, 1, false)], none, none, true, false⟩),
  (71, ⟨true, [.d (.bool false), .mt], [(0, 1, false), (1, 1, false)], none, none, true, false⟩),
  (73, ⟨true, [.d (.bool false), .mt, .mt], [(0, 2, true), (2, 1, false)], none, none, true, false⟩),
  (90, ⟨true, [.d (.int .i64 0), .d (.int .i64 0), .d (.int .i64 0), .d (.bool false), .mt, .mt, .d (.bool false), .mt, .mt], [(0, 1, false), (1, 1, false), (2, 1, false), (3, 3, true), (6, 3, true)], none, none, true, false⟩),
  (92, ⟨true, [.d (.int .i64 0), .d (.int .i64 0), .d (.int .i64 0), .d (.bool false), .mt, .mt, .d (.bool false), .mt, .mt], [(0, 1, false), (1, 1, false), (2, 1, false), (3, 3, true), (6, 3, true)], none, none, true, false⟩)]
noncomputable def layD : List (TypeId × TI) := [
  (3, ⟨false, [.d (.int .i64 0)], [], none, some (.int .i64), false, false⟩),
  (4, ⟨false, [.d (.bool false)], [], none, some .bool, false, false⟩),
  (22, ⟨false, [.mt], [], some .obs, none, false, true⟩),
  (23, ⟨false, [.mt], [], some .int, none, false, false⟩),
  (25, ⟨false, [.mt], [], some .obs, none, false, true⟩),
  (51, ⟨true, [.d (.bool false), .mt], [(0, 1, false), (1, 1, false)], none, none, true, false⟩),
  (53, ⟨true, [.d (.bool false), .mt, .mt], [(0, 2, true), (2, 1, false)], none, none, true, false⟩),
  (71, ⟨true, [.d (.bool false), .mt], [(0, 1, false), (1, 1, false)], none, none, true, false⟩),
  (73, ⟨true, [.d (.bool false), .mt, .mt], [(0, 2, true), (2, 1, false)], none, none, true, false⟩),
  (90, ⟨true, [.d (.int .i64 0), .d (.int .i64 0), .d (.int .i64 0), .d (.bool false), .mt, .mt, .d (.bool false), .mt, .mt], [(0, 1, false), (1, 1, false), (2, 1, false), (3, 3, true), (6, 3, true)], none, none, true, false⟩),
  (92, ⟨true, [.d (.int .i64 0), .d (.int .i64 0), .d (.int .i64 0), .d (.bool false), .mt, .mt, .d (.bool false), .mt, .mt], [(0, 1, false), (1, 1, false), (2, 1, false), (3, 3, true), (6, 3, true)], none, none, true, false⟩)]
theorem lay_ok : LayOk Try.prog lay := layOk_ok (by kernel_rfl)
theorem layD_ok : LayOk Try.prog layD := layOk_ok (by kernel_rfl)
theorem mix : Try.prog.follows .mixedOrders = true := by kernel_rfl

noncomputable def sg_laws_szIntS : Sig := ⟨[(false, [.d (.sl .int)]), (false, [.d (.int .i64)])], [], false, [(false, [.d (.int .i64)])], []⟩
noncomputable def c_laws_szIntS : Con := ⟨sg_laws_szIntS, Int, fun x => M_laws_szIntS x.1 x.2.1, fun r => (r, ())⟩
noncomputable def code_laws_szIntS : Code := Try.f99.body.getD .skip
noncomputable def E_laws_szIntS : Env := ⟨layD, [], [], []⟩
theorem cons_laws_szIntS : ConsOk Try.prog E_laws_szIntS.cons := consOk_nil
theorem loops_laws_szIntS : loopsIn code_laws_szIntS = [] := by kernel_rfl
theorem m_laws_szIntS : Meets Try.prog 99 c_laws_szIntS := meets_of (E := E_laws_szIntS) (code := code_laws_szIntS) mix layD_ok cons_laws_szIntS Try.func99 (by kernel_rfl) sg_laws_szIntS (by kernel_rfl) (fun y => y.1) c_laws_szIntS.out (fun _ => rfl) c_laws_szIntS.run (fun x => by kernel_rfl) (by kernel_rfl) (loops_mem loops_laws_szIntS (trivial))

noncomputable def sg_laws_szBigInt : Sig := ⟨[(true, [.d (.bool), .d (.sl .int)]), (false, [.d (.int .i64)])], [], false, [(false, [.d (.int .i64)])], []⟩
noncomputable def c_laws_szBigInt : Con := ⟨sg_laws_szBigInt, Int, fun x => M_laws_szBigInt (⟨x.1, x.2.1⟩ : Bg) x.2.2.1, fun r => (r, ())⟩
noncomputable def code_laws_szBigInt : Code := Try.f98.body.getD .skip
noncomputable def E_laws_szBigInt : Env := ⟨layD, [(99, c_laws_szIntS)], [], []⟩
theorem cons_laws_szBigInt : ConsOk Try.prog E_laws_szBigInt.cons := consOk_cons m_laws_szIntS (callable_of Try.func99 (by kernel_rfl)) (consOk_nil)
theorem loops_laws_szBigInt : loopsIn code_laws_szBigInt = [] := by kernel_rfl
theorem m_laws_szBigInt : Meets Try.prog 98 c_laws_szBigInt := meets_of (E := E_laws_szBigInt) (code := code_laws_szBigInt) mix layD_ok cons_laws_szBigInt Try.func98 (by kernel_rfl) sg_laws_szBigInt (by kernel_rfl) (fun y => y.1) c_laws_szBigInt.out (fun _ => rfl) c_laws_szBigInt.run (fun x => by kernel_rfl) (by kernel_rfl) (loops_mem loops_laws_szBigInt (trivial))

noncomputable def sg_laws_szRat : Sig := ⟨[(true, [.d (.bool), .d (.sl .int), .d (.sl .int)]), (false, [.d (.int .i64)])], [], false, [(false, [.d (.int .i64)])], []⟩
noncomputable def c_laws_szRat : Con := ⟨sg_laws_szRat, Int, fun x => M_laws_szRat (⟨x.1, x.2.1, x.2.2.1⟩ : Rt) x.2.2.2.1, fun r => (r, ())⟩
noncomputable def code_laws_szRat : Code := Try.f51.body.getD .skip
noncomputable def E_laws_szRat : Env := ⟨layD, [(98, c_laws_szBigInt), (99, c_laws_szIntS)], [], []⟩
theorem cons_laws_szRat : ConsOk Try.prog E_laws_szRat.cons := consOk_cons m_laws_szBigInt (callable_of Try.func98 (by kernel_rfl)) (consOk_cons m_laws_szIntS (callable_of Try.func99 (by kernel_rfl)) (consOk_nil))
theorem loops_laws_szRat : loopsIn code_laws_szRat = [] := by kernel_rfl
theorem m_laws_szRat : Meets Try.prog 51 c_laws_szRat := meets_of (E := E_laws_szRat) (code := code_laws_szRat) mix layD_ok cons_laws_szRat Try.func51 (by kernel_rfl) sg_laws_szRat (by kernel_rfl) (fun y => y.1) c_laws_szRat.out (fun _ => rfl) c_laws_szRat.run (fun x => by kernel_rfl) (by kernel_rfl) (loops_mem loops_laws_szRat (trivial))

noncomputable def sg_laws_szObservation : Sig := ⟨[(true, [.d (.int .i64), .d (.int .i64), .d (.int .i64), .d (.bool), .d (.sl .int), .d (.sl .int), .d (.bool), .d (.sl .int), .d (.sl .int)]), (false, [.d (.int .i64)])], [], false, [(false, [.d (.int .i64)])], []⟩
noncomputable def c_laws_szObservation : Con := ⟨sg_laws_szObservation, Int, fun x => M_laws_szObservation (⟨x.1, x.2.1, x.2.2.1, (⟨x.2.2.2.1, x.2.2.2.2.1, x.2.2.2.2.2.1⟩ : Rt), (⟨x.2.2.2.2.2.2.1, x.2.2.2.2.2.2.2.1, x.2.2.2.2.2.2.2.2.1⟩ : Rt)⟩ : Obs) x.2.2.2.2.2.2.2.2.2.1, fun r => (r, ())⟩
noncomputable def code_laws_szObservation : Code := Try.f61.body.getD .skip
noncomputable def E_laws_szObservation : Env := ⟨layD, [(51, c_laws_szRat)], [], []⟩
theorem cons_laws_szObservation : ConsOk Try.prog E_laws_szObservation.cons := consOk_cons m_laws_szRat (callable_of Try.func51 (by kernel_rfl)) (consOk_nil)
theorem loops_laws_szObservation : loopsIn code_laws_szObservation = [] := by kernel_rfl
theorem m_laws_szObservation : Meets Try.prog 61 c_laws_szObservation := meets_of (E := E_laws_szObservation) (code := code_laws_szObservation) mix layD_ok cons_laws_szObservation Try.func61 (by kernel_rfl) sg_laws_szObservation (by kernel_rfl) (fun y => y.1) c_laws_szObservation.out (fun _ => rfl) c_laws_szObservation.run (fun x => by kernel_rfl) (by kernel_rfl) (loops_mem loops_laws_szObservation (trivial))

noncomputable def sg_laws_szObservationS : Sig := ⟨[(false, [.d (.sl .obs)]), (false, [.d (.int .i64)])], [], false, [(false, [.d (.int .i64)])], []⟩
noncomputable def c_laws_szObservationS : Con := ⟨sg_laws_szObservationS, Int, fun x => M_laws_szObservationS x.1 x.2.1, fun r => (r, ())⟩
noncomputable def code_laws_szObservationS : Code := Try.f13.body.getD .skip
noncomputable def body_laws_szObservationS_0 : Code := (loopsIn code_laws_szObservationS).getD 0 .skip
noncomputable def D_laws_szObservationS_0 : LoopD := ⟨⟨mkSlots [(0, false, [.d (.sl .obs)]), (1, false, [.d (.int .i64)]), (5, false, [.d (.int .i64)])] 27 0, []⟩, [], [(.ret, ⟨mkSlots [(4, false, [.d (.int .i64)])] 27 0, []⟩, []), (.exit 0, ⟨mkSlots [(1, false, [.d (.int .i64)])] 27 0, []⟩, [])]⟩
noncomputable def S_laws_szObservationS_0_w (x : Tys D_laws_szObservationS_0.head.ks) : Option (OutT D_laws_szObservationS_0.outs) := @whileO ((List Obs) × Int × Int × Unit) ((Int × Unit) ⊕ (Int × Unit)) S_laws_szObservationS_0 x
noncomputable def E_laws_szObservationS : Env := ⟨layD, [(61, c_laws_szObservation)], [(5, mkLM D_laws_szObservationS_0 S_laws_szObservationS_0_w)], []⟩
theorem cons_laws_szObservationS : ConsOk Try.prog E_laws_szObservationS.cons := consOk_cons m_laws_szObservation (callable_of Try.func61 (by kernel_rfl)) (consOk_nil)
theorem S_laws_szObservationS_0_ok (x : Tys D_laws_szObservationS_0.head.ks) : stepL E_laws_szObservationS D_laws_szObservationS_0 body_laws_szObservationS_0 x = S_laws_szObservationS_0 x := by kernel_rfl
theorem loops_laws_szObservationS_0 : loopsIn body_laws_szObservationS_0 = [] := by kernel_rfl
theorem l_laws_szObservationS_0 : LoopOk Try.prog (mkLM D_laws_szObservationS_0 S_laws_szObservationS_0_w) body_laws_szObservationS_0 := loop_ok2 mix layD_ok cons_laws_szObservationS (by kernel_rfl) (loops_mem loops_laws_szObservationS_0 (trivial)) S_laws_szObservationS_0_ok fun _ _ h => h
theorem loops_laws_szObservationS : loopsIn code_laws_szObservationS = [body_laws_szObservationS_0] := by kernel_rfl
theorem m_laws_szObservationS : Meets Try.prog 13 c_laws_szObservationS := meets_of (E := E_laws_szObservationS) (code := code_laws_szObservationS) mix layD_ok cons_laws_szObservationS Try.func13 (by kernel_rfl) sg_laws_szObservationS (by kernel_rfl) (fun y => y.1) c_laws_szObservationS.out (fun _ => rfl) c_laws_szObservationS.run (fun x => by kernel_rfl) (by kernel_rfl) (loops_mem loops_laws_szObservationS (⟨⟨_, by kernel_rfl, l_laws_szObservationS_0⟩, trivial⟩))

noncomputable def sg_laws_toIntS : Sig := ⟨[(false, [.d (.sl .int)])], [], false, [(false, [.own 0])], [(0, .arr false .int)]⟩
noncomputable def c_laws_toIntS : Con := ⟨sg_laws_toIntS, List Int, fun x => M_laws_toIntS x.1, fun r => (r, ())⟩
noncomputable def code_laws_toIntS : Code := Try.f16.body.getD .skip
noncomputable def body_laws_toIntS_0 : Code := (loopsIn code_laws_toIntS).getD 0 .skip
noncomputable def D_laws_toIntS_0 : LoopD := ⟨⟨mkSlots [(0, false, [.d (.sl .int)]), (3, false, [.own 1472]), (4, false, [.d (.int .i64)])] 22 0, [(1472, .arr false .int)]⟩, [], [(.exit 0, ⟨mkSlots [(3, false, [.own 1472])] 22 0, [(1472, .arr false .int)]⟩, [])]⟩
noncomputable def S_laws_toIntS_0_w (x : Tys D_laws_toIntS_0.head.ks) : Option (OutT D_laws_toIntS_0.outs) := @whileO ((List Int) × Int × (List Int) × Unit) ((List Int) × Unit) S_laws_toIntS_0 x
noncomputable def E_laws_toIntS : Env := ⟨layD, [], [(3, mkLM D_laws_toIntS_0 S_laws_toIntS_0_w)], []⟩
theorem cons_laws_toIntS : ConsOk Try.prog E_laws_toIntS.cons := consOk_nil
theorem S_laws_toIntS_0_ok (x : Tys D_laws_toIntS_0.head.ks) : stepL E_laws_toIntS D_laws_toIntS_0 body_laws_toIntS_0 x = S_laws_toIntS_0 x := by kernel_rfl
theorem loops_laws_toIntS_0 : loopsIn body_laws_toIntS_0 = [] := by kernel_rfl
theorem l_laws_toIntS_0 : LoopOk Try.prog (mkLM D_laws_toIntS_0 S_laws_toIntS_0_w) body_laws_toIntS_0 := loop_ok2 mix layD_ok cons_laws_toIntS (by kernel_rfl) (loops_mem loops_laws_toIntS_0 (trivial)) S_laws_toIntS_0_ok fun _ _ h => h
theorem loops_laws_toIntS : loopsIn code_laws_toIntS = [body_laws_toIntS_0] := by kernel_rfl
theorem m_laws_toIntS : Meets Try.prog 16 c_laws_toIntS := meets_of (E := E_laws_toIntS) (code := code_laws_toIntS) mix layD_ok cons_laws_toIntS Try.func16 (by kernel_rfl) sg_laws_toIntS (by kernel_rfl) (fun y => y.1) c_laws_toIntS.out (fun _ => rfl) c_laws_toIntS.run (fun x => by kernel_rfl) (by kernel_rfl) (loops_mem loops_laws_toIntS (⟨⟨_, by kernel_rfl, l_laws_toIntS_0⟩, trivial⟩))

noncomputable def sg_laws_toBigInt : Sig := ⟨[(true, [.d (.bool), .d (.sl .int)])], [], false, [(true, [.d (.bool), .own 0])], [(0, .arr false .int)]⟩
noncomputable def c_laws_toBigInt : Con := ⟨sg_laws_toBigInt, Bg, fun x => M_laws_toBigInt (⟨x.1, x.2.1⟩ : Bg), fun r => (r.neg, r.mag, ())⟩
noncomputable def code_laws_toBigInt : Code := Try.f106.body.getD .skip
noncomputable def E_laws_toBigInt : Env := ⟨layD, [(16, c_laws_toIntS)], [], []⟩
theorem cons_laws_toBigInt : ConsOk Try.prog E_laws_toBigInt.cons := consOk_cons m_laws_toIntS (callable_of Try.func16 (by kernel_rfl)) (consOk_nil)
theorem loops_laws_toBigInt : loopsIn code_laws_toBigInt = [] := by kernel_rfl
theorem m_laws_toBigInt : Meets Try.prog 106 c_laws_toBigInt := meets_of (E := E_laws_toBigInt) (code := code_laws_toBigInt) mix layD_ok cons_laws_toBigInt Try.func106 (by kernel_rfl) sg_laws_toBigInt (by kernel_rfl) (fun y => (⟨y.1, y.2.1⟩ : Bg)) c_laws_toBigInt.out (fun _ => rfl) c_laws_toBigInt.run (fun x => by kernel_rfl) (by kernel_rfl) (loops_mem loops_laws_toBigInt (trivial))

noncomputable def sg_laws_toRat : Sig := ⟨[(true, [.d (.bool), .d (.sl .int), .d (.sl .int)])], [], false, [(true, [.d (.bool), .own 0, .own 1])], [(0, .arr false .int), (1, .arr false .int)]⟩
noncomputable def c_laws_toRat : Con := ⟨sg_laws_toRat, Rt, fun x => M_laws_toRat (⟨x.1, x.2.1, x.2.2.1⟩ : Rt), fun r => (r.neg, r.mag, r.den, ())⟩
noncomputable def code_laws_toRat : Code := Try.f54.body.getD .skip
noncomputable def E_laws_toRat : Env := ⟨layD, [(106, c_laws_toBigInt), (16, c_laws_toIntS)], [], []⟩
theorem cons_laws_toRat : ConsOk Try.prog E_laws_toRat.cons := consOk_cons m_laws_toBigInt (callable_of Try.func106 (by kernel_rfl)) (consOk_cons m_laws_toIntS (callable_of Try.func16 (by kernel_rfl)) (consOk_nil))
theorem loops_laws_toRat : loopsIn code_laws_toRat = [] := by kernel_rfl
theorem m_laws_toRat : Meets Try.prog 54 c_laws_toRat := meets_of (E := E_laws_toRat) (code := code_laws_toRat) mix layD_ok cons_laws_toRat Try.func54 (by kernel_rfl) sg_laws_toRat (by kernel_rfl) (fun y => (⟨y.1, y.2.1, y.2.2.1⟩ : Rt)) c_laws_toRat.out (fun _ => rfl) c_laws_toRat.run (fun x => by kernel_rfl) (by kernel_rfl) (loops_mem loops_laws_toRat (trivial))

noncomputable def sg_laws_toObservation : Sig := ⟨[(true, [.d (.int .i64), .d (.int .i64), .d (.int .i64), .d (.bool), .d (.sl .int), .d (.sl .int), .d (.bool), .d (.sl .int), .d (.sl .int)])], [], false, [(true, [.d (.int .i64), .d (.int .i64), .d (.int .i64), .d (.bool), .own 0, .own 1, .d (.bool), .own 2, .own 3])], [(0, .arr false .int), (1, .arr false .int), (2, .arr false .int), (3, .arr false .int)]⟩
noncomputable def c_laws_toObservation : Con := ⟨sg_laws_toObservation, Obs, fun x => M_laws_toObservation (⟨x.1, x.2.1, x.2.2.1, (⟨x.2.2.2.1, x.2.2.2.2.1, x.2.2.2.2.2.1⟩ : Rt), (⟨x.2.2.2.2.2.2.1, x.2.2.2.2.2.2.2.1, x.2.2.2.2.2.2.2.2.1⟩ : Rt)⟩ : Obs), fun r => (r.kind, r.frm, r.to, r.value.neg, r.variance.neg, r.value.mag, r.value.den, r.variance.mag, r.variance.den, ())⟩
noncomputable def code_laws_toObservation : Code := Try.f64.body.getD .skip
noncomputable def E_laws_toObservation : Env := ⟨layD, [(54, c_laws_toRat)], [], []⟩
theorem cons_laws_toObservation : ConsOk Try.prog E_laws_toObservation.cons := consOk_cons m_laws_toRat (callable_of Try.func54 (by kernel_rfl)) (consOk_nil)
theorem loops_laws_toObservation : loopsIn code_laws_toObservation = [] := by kernel_rfl
theorem m_laws_toObservation : Meets Try.prog 64 c_laws_toObservation := meets_of (E := E_laws_toObservation) (code := code_laws_toObservation) mix layD_ok cons_laws_toObservation Try.func64 (by kernel_rfl) sg_laws_toObservation (by kernel_rfl) (fun y => (⟨y.1, y.2.1, y.2.2.1, (⟨y.2.2.2.1, y.2.2.2.2.2.1, y.2.2.2.2.2.2.1⟩ : Rt), (⟨y.2.2.2.2.1, y.2.2.2.2.2.2.2.1, y.2.2.2.2.2.2.2.2.1⟩ : Rt)⟩ : Obs)) c_laws_toObservation.out (fun _ => rfl) c_laws_toObservation.run (fun x => by kernel_rfl) (by kernel_rfl) (loops_mem loops_laws_toObservation (trivial))

noncomputable def sg_laws_toObservationS : Sig := ⟨[(false, [.d (.sl .obs)])], [], false, [(false, [.dp 0])], [(0, .deep .obs)]⟩
noncomputable def c_laws_toObservationS : Con := ⟨sg_laws_toObservationS, List Obs, fun x => M_laws_toObservationS x.1, fun r => (r, ())⟩
noncomputable def code_laws_toObservationS : Code := Try.f15.body.getD .skip
noncomputable def body_laws_toObservationS_0 : Code := (loopsIn code_laws_toObservationS).getD 0 .skip
noncomputable def D_laws_toObservationS_0 : LoopD := ⟨⟨mkSlots [(0, false, [.d (.sl .obs)]), (3, false, [.dp 1536]), (4, false, [.d (.int .i64)])] 23 0, [(1536, .deep .obs)]⟩, [], [(.exit 0, ⟨mkSlots [(3, false, [.dp 1536])] 23 0, [(1536, .deep .obs)]⟩, [])]⟩
noncomputable def S_laws_toObservationS_0_w (x : Tys D_laws_toObservationS_0.head.ks) : Option (OutT D_laws_toObservationS_0.outs) := @whileO ((List Obs) × Int × (List Obs) × Unit) ((List Obs) × Unit) S_laws_toObservationS_0 x
noncomputable def E_laws_toObservationS : Env := ⟨layD, [(64, c_laws_toObservation)], [(3, mkLM D_laws_toObservationS_0 S_laws_toObservationS_0_w)], []⟩
theorem cons_laws_toObservationS : ConsOk Try.prog E_laws_toObservationS.cons := consOk_cons m_laws_toObservation (callable_of Try.func64 (by kernel_rfl)) (consOk_nil)
theorem S_laws_toObservationS_0_ok (x : Tys D_laws_toObservationS_0.head.ks) : stepL E_laws_toObservationS D_laws_toObservationS_0 body_laws_toObservationS_0 x = S_laws_toObservationS_0 x := by kernel_rfl
theorem loops_laws_toObservationS_0 : loopsIn body_laws_toObservationS_0 = [] := by kernel_rfl
theorem l_laws_toObservationS_0 : LoopOk Try.prog (mkLM D_laws_toObservationS_0 S_laws_toObservationS_0_w) body_laws_toObservationS_0 := loop_ok2 mix layD_ok cons_laws_toObservationS (by kernel_rfl) (loops_mem loops_laws_toObservationS_0 (trivial)) S_laws_toObservationS_0_ok fun _ _ h => h
theorem loops_laws_toObservationS : loopsIn code_laws_toObservationS = [body_laws_toObservationS_0] := by kernel_rfl
theorem m_laws_toObservationS : Meets Try.prog 15 c_laws_toObservationS := meets_of (E := E_laws_toObservationS) (code := code_laws_toObservationS) mix layD_ok cons_laws_toObservationS Try.func15 (by kernel_rfl) sg_laws_toObservationS (by kernel_rfl) (fun y => y.1) c_laws_toObservationS.out (fun _ => rfl) c_laws_toObservationS.run (fun x => by kernel_rfl) (by kernel_rfl) (loops_mem loops_laws_toObservationS (⟨⟨_, by kernel_rfl, l_laws_toObservationS_0⟩, trivial⟩))

noncomputable def sg_spec_l07Has : Sig := ⟨[(false, [.d (.sl .int)]), (false, [.d (.int .i64)])], [], false, [(false, [.d (.bool)])], []⟩
noncomputable def c_spec_l07Has : Con := ⟨sg_spec_l07Has, Bool, fun x => M_spec_l07Has x.1 x.2.1, fun r => (r, ())⟩
noncomputable def code_spec_l07Has : Code := Try.f62.body.getD .skip
noncomputable def body_spec_l07Has_0 : Code := (loopsIn code_spec_l07Has).getD 0 .skip
noncomputable def D_spec_l07Has_0 : LoopD := ⟨⟨mkSlots [(1, false, [.d (.int .i64)]), (7, false, [.d (.sl .int)]), (8, false, [.d (.int .i64)]), (9, false, [.d (.int .i64)])] 17 0, []⟩, [], [(.ret, ⟨mkSlots [(4, false, [.d (.bool)])] 17 0, []⟩, []), (.exit 0, ⟨mkSlots [] 17 0, []⟩, [])]⟩
noncomputable def S_spec_l07Has_0_w (x : Tys D_spec_l07Has_0.head.ks) : Option (OutT D_spec_l07Has_0.outs) := @whileO (Int × (List Int) × Int × Int × Unit) ((Bool × Unit) ⊕ (Unit)) S_spec_l07Has_0 x
noncomputable def E_spec_l07Has : Env := ⟨layD, [], [(2, mkLM D_spec_l07Has_0 S_spec_l07Has_0_w)], []⟩
theorem cons_spec_l07Has : ConsOk Try.prog E_spec_l07Has.cons := consOk_nil
theorem S_spec_l07Has_0_ok (x : Tys D_spec_l07Has_0.head.ks) : stepL E_spec_l07Has D_spec_l07Has_0 body_spec_l07Has_0 x = S_spec_l07Has_0 x := by kernel_rfl
theorem loops_spec_l07Has_0 : loopsIn body_spec_l07Has_0 = [] := by kernel_rfl
theorem l_spec_l07Has_0 : LoopOk Try.prog (mkLM D_spec_l07Has_0 S_spec_l07Has_0_w) body_spec_l07Has_0 := loop_ok2 mix layD_ok cons_spec_l07Has (by kernel_rfl) (loops_mem loops_spec_l07Has_0 (trivial)) S_spec_l07Has_0_ok fun _ _ h => h
theorem loops_spec_l07Has : loopsIn code_spec_l07Has = [body_spec_l07Has_0] := by kernel_rfl
theorem m_spec_l07Has : Meets Try.prog 62 c_spec_l07Has := meets_of (E := E_spec_l07Has) (code := code_spec_l07Has) mix layD_ok cons_spec_l07Has Try.func62 (by kernel_rfl) sg_spec_l07Has (by kernel_rfl) (fun y => y.1) c_spec_l07Has.out (fun _ => rfl) c_spec_l07Has.run (fun x => by kernel_rfl) (by kernel_rfl) (loops_mem loops_spec_l07Has (⟨⟨_, by kernel_rfl, l_spec_l07Has_0⟩, trivial⟩))

noncomputable def sg_spec_l04Copy : Sig := ⟨[(true, [.d (.bool), .d (.sl .int), .d (.sl .int)])], [], false, [(true, [.d (.bool), .own 0, .own 1])], [(0, .arr false .int), (1, .arr false .int)]⟩
noncomputable def c_spec_l04Copy : Con := ⟨sg_spec_l04Copy, Rt, fun x => M_spec_l04Copy (⟨x.1, x.2.1, x.2.2.1⟩ : Rt), fun r => (r.neg, r.mag, r.den, ())⟩
noncomputable def code_spec_l04Copy : Code := Try.f74.body.getD .skip
noncomputable def E_spec_l04Copy : Env := ⟨layD, [], [], [(1, [(0, []), (1, []), (2, []), (3, []), (4, []), (5, []), (6, []), (9, []), (10, []), (11, []), (7, [3, 6, 5, 4]), (8, []), (12, [9, 11, 7, 10, 3, 6, 5, 4]), (13, []), (14, [13, 12, 0, 1, 2, 3, 4, 5, 6, 7, 8, 9, 10, 11])])]⟩
theorem cons_spec_l04Copy : ConsOk Try.prog E_spec_l04Copy.cons := consOk_nil
theorem loops_spec_l04Copy : loopsIn code_spec_l04Copy = [] := by kernel_rfl
theorem m_spec_l04Copy : Meets Try.prog 74 c_spec_l04Copy := meets_of (E := E_spec_l04Copy) (code := code_spec_l04Copy) mix layD_ok cons_spec_l04Copy Try.func74 (by kernel_rfl) sg_spec_l04Copy (by kernel_rfl) (fun y => (⟨y.1, y.2.1, y.2.2.1⟩ : Rt)) c_spec_l04Copy.out (fun _ => rfl) c_spec_l04Copy.run (fun x => by kernel_rfl) (by kernel_rfl) (loops_mem loops_spec_l04Copy (trivial))

noncomputable def sg_spec_l11Copy : Sig := ⟨[(true, [.d (.int .i64), .d (.int .i64), .d (.int .i64), .d (.bool), .d (.sl .int), .d (.sl .int), .d (.bool), .d (.sl .int), .d (.sl .int)])], [], false, [(true, [.d (.int .i64), .d (.int .i64), .d (.int .i64), .d (.bool), .own 0, .own 1, .d (.bool), .own 2, .own 3])], [(0, .arr false .int), (1, .arr false .int), (2, .arr false .int), (3, .arr false .int)]⟩
noncomputable def c_spec_l11Copy : Con := ⟨sg_spec_l11Copy, Obs, fun x => M_spec_l11Copy (⟨x.1, x.2.1, x.2.2.1, (⟨x.2.2.2.1, x.2.2.2.2.1, x.2.2.2.2.2.1⟩ : Rt), (⟨x.2.2.2.2.2.2.1, x.2.2.2.2.2.2.2.1, x.2.2.2.2.2.2.2.2.1⟩ : Rt)⟩ : Obs), fun r => (r.kind, r.frm, r.to, r.value.neg, r.variance.neg, r.value.mag, r.value.den, r.variance.mag, r.variance.den, ())⟩
noncomputable def code_spec_l11Copy : Code := Try.f63.body.getD .skip
noncomputable def E_spec_l11Copy : Env := ⟨layD, [(74, c_spec_l04Copy)], [], [(1, [(0, []), (1, []), (2, []), (3, []), (4, []), (5, []), (6, []), (7, []), (9, []), (10, []), (8, [7, 6]), (11, [10, 8, 9, 7, 6]), (12, []), (13, [12, 11, 0, 1, 2, 3, 4, 5, 6, 7, 8, 9, 10])])]⟩
theorem cons_spec_l11Copy : ConsOk Try.prog E_spec_l11Copy.cons := consOk_cons m_spec_l04Copy (callable_of Try.func74 (by kernel_rfl)) (consOk_nil)
theorem loops_spec_l11Copy : loopsIn code_spec_l11Copy = [] := by kernel_rfl
theorem m_spec_l11Copy : Meets Try.prog 63 c_spec_l11Copy := meets_of (E := E_spec_l11Copy) (code := code_spec_l11Copy) mix layD_ok cons_spec_l11Copy Try.func63 (by kernel_rfl) sg_spec_l11Copy (by kernel_rfl) (fun y => (⟨y.1, y.2.1, y.2.2.1, (⟨y.2.2.2.1, y.2.2.2.2.2.1, y.2.2.2.2.2.2.1⟩ : Rt), (⟨y.2.2.2.2.1, y.2.2.2.2.2.2.2.1, y.2.2.2.2.2.2.2.2.1⟩ : Rt)⟩ : Obs)) c_spec_l11Copy.out (fun _ => rfl) c_spec_l11Copy.run (fun x => by kernel_rfl) (by kernel_rfl) (loops_mem loops_spec_l11Copy (trivial))

noncomputable def sg_spec_WithoutObservations : Sig := ⟨[(false, [.d (.sl .obs)]), (false, [.d (.sl .int)])], [], false, [(false, [.dp 0])], [(0, .deep .obs)]⟩
noncomputable def c_spec_WithoutObservations : Con := ⟨sg_spec_WithoutObservations, List Obs, fun x => M_spec_WithoutObservations x.1 x.2.1, fun r => (r, ())⟩
noncomputable def code_spec_WithoutObservations : Code := Try.f14.body.getD .skip
noncomputable def body_spec_WithoutObservations_0 : Code := (loopsIn code_spec_WithoutObservations).getD 0 .skip
noncomputable def D_spec_WithoutObservations_0 : LoopD := ⟨⟨mkSlots [(1, false, [.d (.sl .int)]), (5, false, [.dp 1792]), (9, false, [.d (.sl .obs)]), (10, false, [.d (.int .i64)]), (11, false, [.d (.int .i64)])] 27 0, [(1792, .deep .obs)]⟩, [(.slotD 5 0, 1792, .obs)], [(.exit 0, ⟨mkSlots [(5, false, [.dp 1792])] 27 0, [(1792, .deep .obs)]⟩, [(.slotD 5 0, 1792, .obs)])]⟩
noncomputable def S_spec_WithoutObservations_0_w (x : Tys D_spec_WithoutObservations_0.head.ks) : Option (OutT D_spec_WithoutObservations_0.outs) := @whileO ((List Int) × (List Obs) × Int × Int × (List Obs) × Unit) ((List Obs) × Unit) S_spec_WithoutObservations_0 x
noncomputable def E_spec_WithoutObservations : Env := ⟨layD, [(62, c_spec_l07Has), (63, c_spec_l11Copy)], [(3, mkLM D_spec_WithoutObservations_0 S_spec_WithoutObservations_0_w)], []⟩
theorem cons_spec_WithoutObservations : ConsOk Try.prog E_spec_WithoutObservations.cons := consOk_cons m_spec_l07Has (callable_of Try.func62 (by kernel_rfl)) (consOk_cons m_spec_l11Copy (callable_of Try.func63 (by kernel_rfl)) (consOk_nil))
theorem S_spec_WithoutObservations_0_ok (x : Tys D_spec_WithoutObservations_0.head.ks) : stepL E_spec_WithoutObservations D_spec_WithoutObservations_0 body_spec_WithoutObservations_0 x = S_spec_WithoutObservations_0 x := by kernel_rfl
theorem loops_spec_WithoutObservations_0 : loopsIn body_spec_WithoutObservations_0 = [] := by kernel_rfl
theorem l_spec_WithoutObservations_0 : LoopOk Try.prog (mkLM D_spec_WithoutObservations_0 S_spec_WithoutObservations_0_w) body_spec_WithoutObservations_0 := loop_ok2 mix layD_ok cons_spec_WithoutObservations (by kernel_rfl) (loops_mem loops_spec_WithoutObservations_0 (trivial)) S_spec_WithoutObservations_0_ok fun _ _ h => h
theorem loops_spec_WithoutObservations : loopsIn code_spec_WithoutObservations = [body_spec_WithoutObservations_0] := by kernel_rfl
theorem m_spec_WithoutObservations : Meets Try.prog 14 c_spec_WithoutObservations := meets_of (E := E_spec_WithoutObservations) (code := code_spec_WithoutObservations) mix layD_ok cons_spec_WithoutObservations Try.func14 (by kernel_rfl) sg_spec_WithoutObservations (by kernel_rfl) (fun y => y.1) c_spec_WithoutObservations.out (fun _ => rfl) c_spec_WithoutObservations.run (fun x => by kernel_rfl) (by kernel_rfl) (loops_mem loops_spec_WithoutObservations (⟨⟨_, by kernel_rfl, l_spec_WithoutObservations_0⟩, trivial⟩))

noncomputable def sg_impl_hasInt : Sig := ⟨[(false, [.d (.sl .int)]), (false, [.d (.int .i64)])], [], false, [(false, [.d (.bool)])], []⟩
noncomputable def c_impl_hasInt : Con := ⟨sg_impl_hasInt, Bool, fun x => M_impl_hasInt x.1 x.2.1, fun r => (r, ())⟩
noncomputable def code_impl_hasInt : Code := Try.f65.body.getD .skip
noncomputable def body_impl_hasInt_0 : Code := (loopsIn code_impl_hasInt).getD 0 .skip
noncomputable def D_impl_hasInt_0 : LoopD := ⟨⟨mkSlots [(1, false, [.d (.int .i64)]), (7, false, [.d (.sl .int)]), (8, false, [.d (.int .i64)]), (9, false, [.d (.int .i64)])] 17 0, []⟩, [], [(.ret, ⟨mkSlots [(4, false, [.d (.bool)])] 17 0, []⟩, []), (.exit 0, ⟨mkSlots [] 17 0, []⟩, [])]⟩
noncomputable def S_impl_hasInt_0_w (x : Tys D_impl_hasInt_0.head.ks) : Option (OutT D_impl_hasInt_0.outs) := @whileO (Int × (List Int) × Int × Int × Unit) ((Bool × Unit) ⊕ (Unit)) S_impl_hasInt_0 x
noncomputable def E_impl_hasInt : Env := ⟨layD, [], [(2, mkLM D_impl_hasInt_0 S_impl_hasInt_0_w)], []⟩
theorem cons_impl_hasInt : ConsOk Try.prog E_impl_hasInt.cons := consOk_nil
theorem S_impl_hasInt_0_ok (x : Tys D_impl_hasInt_0.head.ks) : stepL E_impl_hasInt D_impl_hasInt_0 body_impl_hasInt_0 x = S_impl_hasInt_0 x := by kernel_rfl
theorem loops_impl_hasInt_0 : loopsIn body_impl_hasInt_0 = [] := by kernel_rfl
theorem l_impl_hasInt_0 : LoopOk Try.prog (mkLM D_impl_hasInt_0 S_impl_hasInt_0_w) body_impl_hasInt_0 := loop_ok2 mix layD_ok cons_impl_hasInt (by kernel_rfl) (loops_mem loops_impl_hasInt_0 (trivial)) S_impl_hasInt_0_ok fun _ _ h => h
theorem loops_impl_hasInt : loopsIn code_impl_hasInt = [body_impl_hasInt_0] := by kernel_rfl
theorem m_impl_hasInt : Meets Try.prog 65 c_impl_hasInt := meets_of (E := E_impl_hasInt) (code := code_impl_hasInt) mix layD_ok cons_impl_hasInt Try.func65 (by kernel_rfl) sg_impl_hasInt (by kernel_rfl) (fun y => y.1) c_impl_hasInt.out (fun _ => rfl) c_impl_hasInt.run (fun x => by kernel_rfl) (by kernel_rfl) (loops_mem loops_impl_hasInt (⟨⟨_, by kernel_rfl, l_impl_hasInt_0⟩, trivial⟩))

noncomputable def sg_impl_copyInts : Sig := ⟨[(false, [.d (.sl .int)])], [], false, [(false, [.own 0])], [(0, .arr false .int)]⟩
noncomputable def c_impl_copyInts : Con := ⟨sg_impl_copyInts, List Int, fun x => M_impl_copyInts x.1, fun r => (r, ())⟩
noncomputable def code_impl_copyInts : Code := Try.f121.body.getD .skip
noncomputable def E_impl_copyInts : Env := ⟨layD, [], [], []⟩
theorem cons_impl_copyInts : ConsOk Try.prog E_impl_copyInts.cons := consOk_nil
theorem loops_impl_copyInts : loopsIn code_impl_copyInts = [] := by kernel_rfl
theorem m_impl_copyInts : Meets Try.prog 121 c_impl_copyInts := meets_of (E := E_impl_copyInts) (code := code_impl_copyInts) mix layD_ok cons_impl_copyInts Try.func121 (by kernel_rfl) sg_impl_copyInts (by kernel_rfl) (fun y => y.1) c_impl_copyInts.out (fun _ => rfl) c_impl_copyInts.run (fun x => by kernel_rfl) (by kernel_rfl) (loops_mem loops_impl_copyInts (trivial))

noncomputable def sg_impl_copyRat : Sig := ⟨[(true, [.d (.bool), .d (.sl .int), .d (.sl .int)])], [], false, [(true, [.d (.bool), .own 0, .own 1])], [(0, .arr false .int), (1, .arr false .int)]⟩
noncomputable def c_impl_copyRat : Con := ⟨sg_impl_copyRat, Rt, fun x => M_impl_copyRat (⟨x.1, x.2.1, x.2.2.1⟩ : Rt), fun r => (r.neg, r.mag, r.den, ())⟩
noncomputable def code_impl_copyRat : Code := Try.f77.body.getD .skip
noncomputable def E_impl_copyRat : Env := ⟨layD, [(121, c_impl_copyInts)], [], [(1, [(0, []), (1, []), (2, []), (3, []), (4, []), (5, []), (8, []), (9, []), (6, [5, 4, 3]), (7, []), (10, [9, 6, 8, 5, 4, 3]), (11, []), (12, [11, 10, 0, 1, 2, 3, 4, 5, 6, 7, 8, 9])])]⟩
theorem cons_impl_copyRat : ConsOk Try.prog E_impl_copyRat.cons := consOk_cons m_impl_copyInts (callable_of Try.func121 (by kernel_rfl)) (consOk_nil)
theorem loops_impl_copyRat : loopsIn code_impl_copyRat = [] := by kernel_rfl
theorem m_impl_copyRat : Meets Try.prog 77 c_impl_copyRat := meets_of (E := E_impl_copyRat) (code := code_impl_copyRat) mix layD_ok cons_impl_copyRat Try.func77 (by kernel_rfl) sg_impl_copyRat (by kernel_rfl) (fun y => (⟨y.1, y.2.1, y.2.2.1⟩ : Rt)) c_impl_copyRat.out (fun _ => rfl) c_impl_copyRat.run (fun x => by kernel_rfl) (by kernel_rfl) (loops_mem loops_impl_copyRat (trivial))

noncomputable def sg_impl_copyObservation : Sig := ⟨[(true, [.d (.int .i64), .d (.int .i64), .d (.int .i64), .d (.bool), .d (.sl .int), .d (.sl .int), .d (.bool), .d (.sl .int), .d (.sl .int)])], [], false, [(true, [.d (.int .i64), .d (.int .i64), .d (.int .i64), .d (.bool), .own 0, .own 1, .d (.bool), .own 2, .own 3])], [(0, .arr false .int), (1, .arr false .int), (2, .arr false .int), (3, .arr false .int)]⟩
noncomputable def c_impl_copyObservation : Con := ⟨sg_impl_copyObservation, Obs, fun x => M_impl_copyObservation (⟨x.1, x.2.1, x.2.2.1, (⟨x.2.2.2.1, x.2.2.2.2.1, x.2.2.2.2.2.1⟩ : Rt), (⟨x.2.2.2.2.2.2.1, x.2.2.2.2.2.2.2.1, x.2.2.2.2.2.2.2.2.1⟩ : Rt)⟩ : Obs), fun r => (r.kind, r.frm, r.to, r.value.neg, r.variance.neg, r.value.mag, r.value.den, r.variance.mag, r.variance.den, ())⟩
noncomputable def code_impl_copyObservation : Code := Try.f66.body.getD .skip
noncomputable def E_impl_copyObservation : Env := ⟨layD, [(77, c_impl_copyRat)], [], [(1, [(0, []), (1, []), (3, []), (4, []), (2, [1, 0]), (6, []), (5, [4, 2, 3, 1, 0]), (7, [6, 2, 5, 0, 1, 3, 4]), (8, []), (9, [8, 5, 7, 0, 1, 2, 3, 4, 6])])]⟩
theorem cons_impl_copyObservation : ConsOk Try.prog E_impl_copyObservation.cons := consOk_cons m_impl_copyRat (callable_of Try.func77 (by kernel_rfl)) (consOk_nil)
theorem loops_impl_copyObservation : loopsIn code_impl_copyObservation = [] := by kernel_rfl
theorem m_impl_copyObservation : Meets Try.prog 66 c_impl_copyObservation := meets_of (E := E_impl_copyObservation) (code := code_impl_copyObservation) mix layD_ok cons_impl_copyObservation Try.func66 (by kernel_rfl) sg_impl_copyObservation (by kernel_rfl) (fun y => (⟨y.1, y.2.1, y.2.2.1, (⟨y.2.2.2.1, y.2.2.2.2.2.1, y.2.2.2.2.2.2.1⟩ : Rt), (⟨y.2.2.2.2.1, y.2.2.2.2.2.2.2.1, y.2.2.2.2.2.2.2.2.1⟩ : Rt)⟩ : Obs)) c_impl_copyObservation.out (fun _ => rfl) c_impl_copyObservation.run (fun x => by kernel_rfl) (by kernel_rfl) (loops_mem loops_impl_copyObservation (trivial))

noncomputable def sg_impl_WithoutObservations : Sig := ⟨[(false, [.d (.sl .obs)]), (false, [.d (.sl .int)])], [], false, [(false, [.dp 0])], [(0, .deep .obs)]⟩
noncomputable def c_impl_WithoutObservations : Con := ⟨sg_impl_WithoutObservations, List Obs, fun x => M_impl_WithoutObservations x.1 x.2.1, fun r => (r, ())⟩
noncomputable def code_impl_WithoutObservations : Code := Try.f17.body.getD .skip
noncomputable def body_impl_WithoutObservations_0 : Code := (loopsIn code_impl_WithoutObservations).getD 0 .skip
noncomputable def D_impl_WithoutObservations_0 : LoopD := ⟨⟨mkSlots [(1, false, [.d (.sl .int)]), (5, false, [.dp 1728]), (8, false, [.d (.sl .obs)]), (9, false, [.d (.int .i64)]), (10, false, [.d (.int .i64)])] 26 0, [(1728, .deep .obs)]⟩, [(.slotD 5 0, 1728, .obs)], [(.exit 0, ⟨mkSlots [(5, false, [.dp 1728])] 26 0, [(1728, .deep .obs)]⟩, [(.slotD 5 0, 1728, .obs)])]⟩
noncomputable def S_impl_WithoutObservations_0_w (x : Tys D_impl_WithoutObservations_0.head.ks) : Option (OutT D_impl_WithoutObservations_0.outs) := @whileO ((List Int) × (List Obs) × Int × Int × (List Obs) × Unit) ((List Obs) × Unit) S_impl_WithoutObservations_0 x
noncomputable def E_impl_WithoutObservations : Env := ⟨layD, [(65, c_impl_hasInt), (66, c_impl_copyObservation)], [(3, mkLM D_impl_WithoutObservations_0 S_impl_WithoutObservations_0_w)], []⟩
theorem cons_impl_WithoutObservations : ConsOk Try.prog E_impl_WithoutObservations.cons := consOk_cons m_impl_hasInt (callable_of Try.func65 (by kernel_rfl)) (consOk_cons m_impl_copyObservation (callable_of Try.func66 (by kernel_rfl)) (consOk_nil))
theorem S_impl_WithoutObservations_0_ok (x : Tys D_impl_WithoutObservations_0.head.ks) : stepL E_impl_WithoutObservations D_impl_WithoutObservations_0 body_impl_WithoutObservations_0 x = S_impl_WithoutObservations_0 x := by kernel_rfl
theorem loops_impl_WithoutObservations_0 : loopsIn body_impl_WithoutObservations_0 = [] := by kernel_rfl
theorem l_impl_WithoutObservations_0 : LoopOk Try.prog (mkLM D_impl_WithoutObservations_0 S_impl_WithoutObservations_0_w) body_impl_WithoutObservations_0 := loop_ok2 mix layD_ok cons_impl_WithoutObservations (by kernel_rfl) (loops_mem loops_impl_WithoutObservations_0 (trivial)) S_impl_WithoutObservations_0_ok fun _ _ h => h
theorem loops_impl_WithoutObservations : loopsIn code_impl_WithoutObservations = [body_impl_WithoutObservations_0] := by kernel_rfl
theorem m_impl_WithoutObservations : Meets Try.prog 17 c_impl_WithoutObservations := meets_of (E := E_impl_WithoutObservations) (code := code_impl_WithoutObservations) mix layD_ok cons_impl_WithoutObservations Try.func17 (by kernel_rfl) sg_impl_WithoutObservations (by kernel_rfl) (fun y => y.1) c_impl_WithoutObservations.out (fun _ => rfl) c_impl_WithoutObservations.run (fun x => by kernel_rfl) (by kernel_rfl) (loops_mem loops_impl_WithoutObservations (⟨⟨_, by kernel_rfl, l_impl_WithoutObservations_0⟩, trivial⟩))

noncomputable def sg_laws_eqIntS : Sig := ⟨[(false, [.d (.sl .int)]), (false, [.d (.sl .int)])], [], false, [(false, [.d (.bool)])], []⟩
noncomputable def c_laws_eqIntS : Con := ⟨sg_laws_eqIntS, Bool, fun x => M_laws_eqIntS x.1 x.2.1, fun r => (r, ())⟩
noncomputable def code_laws_eqIntS : Code := Try.f19.body.getD .skip
noncomputable def body_laws_eqIntS_0 : Code := (loopsIn code_laws_eqIntS).getD 0 .skip
noncomputable def D_laws_eqIntS_0 : LoopD := ⟨⟨mkSlots [(0, false, [.d (.sl .int)]), (1, false, [.d (.sl .int)]), (5, false, [.d (.int .i64)])] 26 0, []⟩, [], [(.ret, ⟨mkSlots [(4, false, [.d (.bool)])] 26 0, []⟩, []), (.exit 0, ⟨mkSlots [] 26 0, []⟩, [])]⟩
noncomputable def S_laws_eqIntS_0_w (x : Tys D_laws_eqIntS_0.head.ks) : Option (OutT D_laws_eqIntS_0.outs) := @whileO ((List Int) × (List Int) × Int × Unit) ((Bool × Unit) ⊕ (Unit)) S_laws_eqIntS_0 x
noncomputable def E_laws_eqIntS : Env := ⟨layD, [], [(4, mkLM D_laws_eqIntS_0 S_laws_eqIntS_0_w)], [(6, [(0, []), (1, []), (2, []), (3, []), (4, []), (5, []), (6, []), (7, []), (8, [])])]⟩
theorem cons_laws_eqIntS : ConsOk Try.prog E_laws_eqIntS.cons := consOk_nil
theorem S_laws_eqIntS_0_ok (x : Tys D_laws_eqIntS_0.head.ks) : stepL E_laws_eqIntS D_laws_eqIntS_0 body_laws_eqIntS_0 x = S_laws_eqIntS_0 x := by kernel_rfl
theorem loops_laws_eqIntS_0 : loopsIn body_laws_eqIntS_0 = [] := by kernel_rfl
theorem l_laws_eqIntS_0 : LoopOk Try.prog (mkLM D_laws_eqIntS_0 S_laws_eqIntS_0_w) body_laws_eqIntS_0 := loop_ok2 mix layD_ok cons_laws_eqIntS (by kernel_rfl) (loops_mem loops_laws_eqIntS_0 (trivial)) S_laws_eqIntS_0_ok fun _ _ h => h
theorem loops_laws_eqIntS : loopsIn code_laws_eqIntS = [body_laws_eqIntS_0] := by kernel_rfl
theorem m_laws_eqIntS : Meets Try.prog 19 c_laws_eqIntS := meets_of (E := E_laws_eqIntS) (code := code_laws_eqIntS) mix layD_ok cons_laws_eqIntS Try.func19 (by kernel_rfl) sg_laws_eqIntS (by kernel_rfl) (fun y => y.1) c_laws_eqIntS.out (fun _ => rfl) c_laws_eqIntS.run (fun x => by kernel_rfl) (by kernel_rfl) (loops_mem loops_laws_eqIntS (⟨⟨_, by kernel_rfl, l_laws_eqIntS_0⟩, trivial⟩))

noncomputable def sg_laws_eqBigInt : Sig := ⟨[(true, [.d (.bool), .d (.sl .int)]), (true, [.d (.bool), .d (.sl .int)])], [], false, [(false, [.d (.bool)])], []⟩
noncomputable def c_laws_eqBigInt : Con := ⟨sg_laws_eqBigInt, Bool, fun x => M_laws_eqBigInt (⟨x.1, x.2.1⟩ : Bg) (⟨x.2.2.1, x.2.2.2.1⟩ : Bg), fun r => (r, ())⟩
noncomputable def code_laws_eqBigInt : Code := Try.f79.body.getD .skip
noncomputable def E_laws_eqBigInt : Env := ⟨layD, [(19, c_laws_eqIntS)], [], []⟩
theorem cons_laws_eqBigInt : ConsOk Try.prog E_laws_eqBigInt.cons := consOk_cons m_laws_eqIntS (callable_of Try.func19 (by kernel_rfl)) (consOk_nil)
theorem loops_laws_eqBigInt : loopsIn code_laws_eqBigInt = [] := by kernel_rfl
theorem m_laws_eqBigInt : Meets Try.prog 79 c_laws_eqBigInt := meets_of (E := E_laws_eqBigInt) (code := code_laws_eqBigInt) mix layD_ok cons_laws_eqBigInt Try.func79 (by kernel_rfl) sg_laws_eqBigInt (by kernel_rfl) (fun y => y.1) c_laws_eqBigInt.out (fun _ => rfl) c_laws_eqBigInt.run (fun x => by kernel_rfl) (by kernel_rfl) (loops_mem loops_laws_eqBigInt (trivial))

noncomputable def sg_laws_eqRat : Sig := ⟨[(true, [.d (.bool), .d (.sl .int), .d (.sl .int)]), (true, [.d (.bool), .d (.sl .int), .d (.sl .int)])], [], false, [(false, [.d (.bool)])], []⟩
noncomputable def c_laws_eqRat : Con := ⟨sg_laws_eqRat, Bool, fun x => M_laws_eqRat (⟨x.1, x.2.1, x.2.2.1⟩ : Rt) (⟨x.2.2.2.1, x.2.2.2.2.1, x.2.2.2.2.2.1⟩ : Rt), fun r => (r, ())⟩
noncomputable def code_laws_eqRat : Code := Try.f37.body.getD .skip
noncomputable def E_laws_eqRat : Env := ⟨layD, [(79, c_laws_eqBigInt), (19, c_laws_eqIntS)], [], []⟩
theorem cons_laws_eqRat : ConsOk Try.prog E_laws_eqRat.cons := consOk_cons m_laws_eqBigInt (callable_of Try.func79 (by kernel_rfl)) (consOk_cons m_laws_eqIntS (callable_of Try.func19 (by kernel_rfl)) (consOk_nil))
theorem loops_laws_eqRat : loopsIn code_laws_eqRat = [] := by kernel_rfl
theorem m_laws_eqRat : Meets Try.prog 37 c_laws_eqRat := meets_of (E := E_laws_eqRat) (code := code_laws_eqRat) mix layD_ok cons_laws_eqRat Try.func37 (by kernel_rfl) sg_laws_eqRat (by kernel_rfl) (fun y => y.1) c_laws_eqRat.out (fun _ => rfl) c_laws_eqRat.run (fun x => by kernel_rfl) (by kernel_rfl) (loops_mem loops_laws_eqRat (trivial))

noncomputable def sg_laws_eqObservation : Sig := ⟨[(true, [.d (.int .i64), .d (.int .i64), .d (.int .i64), .d (.bool), .d (.sl .int), .d (.sl .int), .d (.bool), .d (.sl .int), .d (.sl .int)]), (true, [.d (.int .i64), .d (.int .i64), .d (.int .i64), .d (.bool), .d (.sl .int), .d (.sl .int), .d (.bool), .d (.sl .int), .d (.sl .int)])], [], false, [(false, [.d (.bool)])], []⟩
noncomputable def c_laws_eqObservation : Con := ⟨sg_laws_eqObservation, Bool, fun x => M_laws_eqObservation (⟨x.1, x.2.1, x.2.2.1, (⟨x.2.2.2.1, x.2.2.2.2.1, x.2.2.2.2.2.1⟩ : Rt), (⟨x.2.2.2.2.2.2.1, x.2.2.2.2.2.2.2.1, x.2.2.2.2.2.2.2.2.1⟩ : Rt)⟩ : Obs) (⟨x.2.2.2.2.2.2.2.2.2.1, x.2.2.2.2.2.2.2.2.2.2.1, x.2.2.2.2.2.2.2.2.2.2.2.1, (⟨x.2.2.2.2.2.2.2.2.2.2.2.2.1, x.2.2.2.2.2.2.2.2.2.2.2.2.2.1, x.2.2.2.2.2.2.2.2.2.2.2.2.2.2.1⟩ : Rt), (⟨x.2.2.2.2.2.2.2.2.2.2.2.2.2.2.2.1, x.2.2.2.2.2.2.2.2.2.2.2.2.2.2.2.2.1, x.2.2.2.2.2.2.2.2.2.2.2.2.2.2.2.2.2.1⟩ : Rt)⟩ : Obs), fun r => (r, ())⟩
noncomputable def code_laws_eqObservation : Code := Try.f67.body.getD .skip
noncomputable def E_laws_eqObservation : Env := ⟨layD, [(37, c_laws_eqRat)], [], []⟩
theorem cons_laws_eqObservation : ConsOk Try.prog E_laws_eqObservation.cons := consOk_cons m_laws_eqRat (callable_of Try.func37 (by kernel_rfl)) (consOk_nil)
theorem loops_laws_eqObservation : loopsIn code_laws_eqObservation = [] := by kernel_rfl
theorem m_laws_eqObservation : Meets Try.prog 67 c_laws_eqObservation := meets_of (E := E_laws_eqObservation) (code := code_laws_eqObservation) mix layD_ok cons_laws_eqObservation Try.func67 (by kernel_rfl) sg_laws_eqObservation (by kernel_rfl) (fun y => y.1) c_laws_eqObservation.out (fun _ => rfl) c_laws_eqObservation.run (fun x => by kernel_rfl) (by kernel_rfl) (loops_mem loops_laws_eqObservation (trivial))

noncomputable def sg_laws_eqObservationS : Sig := ⟨[(false, [.d (.sl .obs)]), (false, [.d (.sl .obs)])], [], false, [(false, [.d (.bool)])], []⟩
noncomputable def c_laws_eqObservationS : Con := ⟨sg_laws_eqObservationS, Bool, fun x => M_laws_eqObservationS x.1 x.2.1, fun r => (r, ())⟩
noncomputable def code_laws_eqObservationS : Code := Try.f18.body.getD .skip
noncomputable def body_laws_eqObservationS_0 : Code := (loopsIn code_laws_eqObservationS).getD 0 .skip
noncomputable def D_laws_eqObservationS_0 : LoopD := ⟨⟨mkSlots [(0, false, [.d (.sl .obs)]), (1, false, [.d (.sl .obs)]), (5, false, [.d (.int .i64)])] 27 0, []⟩, [], [(.ret, ⟨mkSlots [(4, false, [.d (.bool)])] 27 0, []⟩, []), (.exit 0, ⟨mkSlots [] 27 0, []⟩, [])]⟩
noncomputable def S_laws_eqObservationS_0_w (x : Tys D_laws_eqObservationS_0.head.ks) : Option (OutT D_laws_eqObservationS_0.outs) := @whileO ((List Obs) × (List Obs) × Int × Unit) ((Bool × Unit) ⊕ (Unit)) S_laws_eqObservationS_0 x
noncomputable def E_laws_eqObservationS : Env := ⟨layD, [(67, c_laws_eqObservation)], [(4, mkLM D_laws_eqObservationS_0 S_laws_eqObservationS_0_w)], [(6, [(0, []), (1, []), (2, []), (3, []), (4, []), (5, []), (6, []), (7, []), (8, [3, 7, 2, 6, 0, 1, 4, 5]), (9, [])])]⟩
theorem cons_laws_eqObservationS : ConsOk Try.prog E_laws_eqObservationS.cons := consOk_cons m_laws_eqObservation (callable_of Try.func67 (by kernel_rfl)) (consOk_nil)
theorem S_laws_eqObservationS_0_ok (x : Tys D_laws_eqObservationS_0.head.ks) : stepL E_laws_eqObservationS D_laws_eqObservationS_0 body_laws_eqObservationS_0 x = S_laws_eqObservationS_0 x := by kernel_rfl
theorem loops_laws_eqObservationS_0 : loopsIn body_laws_eqObservationS_0 = [] := by kernel_rfl
theorem l_laws_eqObservationS_0 : LoopOk Try.prog (mkLM D_laws_eqObservationS_0 S_laws_eqObservationS_0_w) body_laws_eqObservationS_0 := loop_ok2 mix layD_ok cons_laws_eqObservationS (by kernel_rfl) (loops_mem loops_laws_eqObservationS_0 (trivial)) S_laws_eqObservationS_0_ok fun _ _ h => h
theorem loops_laws_eqObservationS : loopsIn code_laws_eqObservationS = [body_laws_eqObservationS_0] := by kernel_rfl
theorem m_laws_eqObservationS : Meets Try.prog 18 c_laws_eqObservationS := meets_of (E := E_laws_eqObservationS) (code := code_laws_eqObservationS) mix layD_ok cons_laws_eqObservationS Try.func18 (by kernel_rfl) sg_laws_eqObservationS (by kernel_rfl) (fun y => y.1) c_laws_eqObservationS.out (fun _ => rfl) c_laws_eqObservationS.run (fun x => by kernel_rfl) (by kernel_rfl) (loops_mem loops_laws_eqObservationS (⟨⟨_, by kernel_rfl, l_laws_eqObservationS_0⟩, trivial⟩))

noncomputable def sg_laws_markIntS_md : Sig := ⟨[(false, [.own 63]), (false, [.d (.int .i64)])], [(63, .arr false .int)], false, [(false, [.d (.int .i64)])], [(63, .arr false .int)]⟩
noncomputable def c_laws_markIntS_md : Con := ⟨sg_laws_markIntS_md, Int × List Int, fun x => M_laws_markIntS_md x.2.1 x.1, fun r => (r.1, r.2, ())⟩
noncomputable def code_laws_markIntS_md : Code := Try.f21.body.getD .skip
noncomputable def body_laws_markIntS_md_0 : Code := (loopsIn code_laws_markIntS_md).getD 0 .skip
noncomputable def D_laws_markIntS_md_0 : LoopD := ⟨⟨mkSlots [(0, false, [.own 63]), (1, false, [.d (.int .i64)]), (5, false, [.d (.int .i64)])] 19 0, [(63, .arr false .int)]⟩, [], [(.exit 0, ⟨mkSlots [(1, false, [.d (.int .i64)])] 19 0, [(63, .arr false .int)]⟩, [])]⟩
noncomputable def S_laws_markIntS_md_0_w (x : Tys D_laws_markIntS_md_0.head.ks) : Option (OutT D_laws_markIntS_md_0.outs) := @whileO (Int × Int × (List Int) × Unit) (Int × (List Int) × Unit) S_laws_markIntS_md_0 x
noncomputable def E_laws_markIntS_md : Env := ⟨layD, [], [(2, mkLM D_laws_markIntS_md_0 S_laws_markIntS_md_0_w)], []⟩
theorem cons_laws_markIntS_md : ConsOk Try.prog E_laws_markIntS_md.cons := consOk_nil
theorem S_laws_markIntS_md_0_ok (x : Tys D_laws_markIntS_md_0.head.ks) : stepL E_laws_markIntS_md D_laws_markIntS_md_0 body_laws_markIntS_md_0 x = S_laws_markIntS_md_0 x := by kernel_rfl
theorem loops_laws_markIntS_md_0 : loopsIn body_laws_markIntS_md_0 = [] := by kernel_rfl
theorem l_laws_markIntS_md_0 : LoopOk Try.prog (mkLM D_laws_markIntS_md_0 S_laws_markIntS_md_0_w) body_laws_markIntS_md_0 := loop_ok2 mix layD_ok cons_laws_markIntS_md (by kernel_rfl) (loops_mem loops_laws_markIntS_md_0 (trivial)) S_laws_markIntS_md_0_ok fun _ _ h => h
theorem loops_laws_markIntS_md : loopsIn code_laws_markIntS_md = [body_laws_markIntS_md_0] := by kernel_rfl
theorem m_laws_markIntS_md : Meets Try.prog 21 c_laws_markIntS_md := meets_of (E := E_laws_markIntS_md) (code := code_laws_markIntS_md) mix layD_ok cons_laws_markIntS_md Try.func21 (by kernel_rfl) sg_laws_markIntS_md (by kernel_rfl) (fun y => (y.1, y.2.1)) c_laws_markIntS_md.out (fun _ => rfl) c_laws_markIntS_md.run (fun x => by kernel_rfl) (by kernel_rfl) (loops_mem loops_laws_markIntS_md (⟨⟨_, by kernel_rfl, l_laws_markIntS_md_0⟩, trivial⟩))

noncomputable def sg_laws_markObservationS_md : Sig := ⟨[(false, [.dp 63]), (false, [.d (.int .i64)])], [(63, .deep .obs)], false, [(false, [.d (.int .i64)])], [(63, .deep .obs)]⟩
noncomputable def c_laws_markObservationS_md : Con := ⟨sg_laws_markObservationS_md, Int × List Obs, fun x => M_laws_markObservationS_md x.2.1 x.1, fun r => (r.1, r.2, ())⟩
noncomputable def code_laws_markObservationS_md : Code := Try.f20.body.getD .skip
noncomputable def body_laws_markObservationS_md_0 : Code := (loopsIn code_laws_markObservationS_md).getD 0 .skip
noncomputable def D_laws_markObservationS_md_0 : LoopD := ⟨⟨mkSlots [(0, false, [.dp 63]), (1, false, [.d (.int .i64)]), (5, false, [.d (.int .i64)])] 90 0, [(63, .deep .obs)]⟩, [], [(.exit 0, ⟨mkSlots [(1, false, [.d (.int .i64)])] 90 0, [(63, .deep .obs)]⟩, [])]⟩
noncomputable def S_laws_markObservationS_md_0_w (x : Tys D_laws_markObservationS_md_0.head.ks) : Option (OutT D_laws_markObservationS_md_0.outs) := @whileO (Int × Int × (List Obs) × Unit) (Int × (List Obs) × Unit) S_laws_markObservationS_md_0 x
noncomputable def E_laws_markObservationS_md : Env := ⟨layD, [(21, c_laws_markIntS_md)], [(2, mkLM D_laws_markObservationS_md_0 S_laws_markObservationS_md_0_w)], []⟩
theorem cons_laws_markObservationS_md : ConsOk Try.prog E_laws_markObservationS_md.cons := consOk_cons m_laws_markIntS_md (callable_of Try.func21 (by kernel_rfl)) (consOk_nil)
theorem S_laws_markObservationS_md_0_ok (x : Tys D_laws_markObservationS_md_0.head.ks) : stepL E_laws_markObservationS_md D_laws_markObservationS_md_0 body_laws_markObservationS_md_0 x = S_laws_markObservationS_md_0 x := by kernel_rfl
theorem loops_laws_markObservationS_md_0 : loopsIn body_laws_markObservationS_md_0 = [] := by kernel_rfl
theorem l_laws_markObservationS_md_0 : LoopOk Try.prog (mkLM D_laws_markObservationS_md_0 S_laws_markObservationS_md_0_w) body_laws_markObservationS_md_0 := loop_ok2 mix layD_ok cons_laws_markObservationS_md (by kernel_rfl) (loops_mem loops_laws_markObservationS_md_0 (trivial)) S_laws_markObservationS_md_0_ok fun _ _ h => h
theorem loops_laws_markObservationS_md : loopsIn code_laws_markObservationS_md = [body_laws_markObservationS_md_0] := by kernel_rfl
theorem m_laws_markObservationS_md : Meets Try.prog 20 c_laws_markObservationS_md := meets_of (E := E_laws_markObservationS_md) (code := code_laws_markObservationS_md) mix layD_ok cons_laws_markObservationS_md Try.func20 (by kernel_rfl) sg_laws_markObservationS_md (by kernel_rfl) (fun y => (y.1, y.2.1)) c_laws_markObservationS_md.out (fun _ => rfl) c_laws_markObservationS_md.run (fun x => by kernel_rfl) (by kernel_rfl) (loops_mem loops_laws_markObservationS_md (⟨⟨_, by kernel_rfl, l_laws_markObservationS_md_0⟩, trivial⟩))

noncomputable def sg_laws_heldIntS : Sig := ⟨[(false, [.d (.sl .int)]), (false, [.d (.int .i64)])], [], false, [(false, [.d (.int .i64)])], []⟩
noncomputable def c_laws_heldIntS : Con := ⟨sg_laws_heldIntS, Int, fun x => M_laws_heldIntS x.1 x.2.1, fun r => (r, ())⟩
noncomputable def code_laws_heldIntS : Code := Try.f68.body.getD .skip
noncomputable def body_laws_heldIntS_0 : Code := (loopsIn code_laws_heldIntS).getD 0 .skip
noncomputable def D_laws_heldIntS_0 : LoopD := ⟨⟨mkSlots [(0, false, [.d (.sl .int)]), (1, false, [.d (.int .i64)]), (5, false, [.d (.int .i64)])] 21 0, []⟩, [], [(.ret, ⟨mkSlots [(4, false, [.d (.int .i64)])] 21 0, []⟩, []), (.exit 0, ⟨mkSlots [(1, false, [.d (.int .i64)])] 21 0, []⟩, [])]⟩
noncomputable def S_laws_heldIntS_0_w (x : Tys D_laws_heldIntS_0.head.ks) : Option (OutT D_laws_heldIntS_0.outs) := @whileO ((List Int) × Int × Int × Unit) ((Int × Unit) ⊕ (Int × Unit)) S_laws_heldIntS_0 x
noncomputable def E_laws_heldIntS : Env := ⟨layD, [], [(2, mkLM D_laws_heldIntS_0 S_laws_heldIntS_0_w)], []⟩
theorem cons_laws_heldIntS : ConsOk Try.prog E_laws_heldIntS.cons := consOk_nil
theorem S_laws_heldIntS_0_ok (x : Tys D_laws_heldIntS_0.head.ks) : stepL E_laws_heldIntS D_laws_heldIntS_0 body_laws_heldIntS_0 x = S_laws_heldIntS_0 x := by kernel_rfl
theorem loops_laws_heldIntS_0 : loopsIn body_laws_heldIntS_0 = [] := by kernel_rfl
theorem l_laws_heldIntS_0 : LoopOk Try.prog (mkLM D_laws_heldIntS_0 S_laws_heldIntS_0_w) body_laws_heldIntS_0 := loop_ok2 mix layD_ok cons_laws_heldIntS (by kernel_rfl) (loops_mem loops_laws_heldIntS_0 (trivial)) S_laws_heldIntS_0_ok fun _ _ h => h
theorem loops_laws_heldIntS : loopsIn code_laws_heldIntS = [body_laws_heldIntS_0] := by kernel_rfl
theorem m_laws_heldIntS : Meets Try.prog 68 c_laws_heldIntS := meets_of (E := E_laws_heldIntS) (code := code_laws_heldIntS) mix layD_ok cons_laws_heldIntS Try.func68 (by kernel_rfl) sg_laws_heldIntS (by kernel_rfl) (fun y => y.1) c_laws_heldIntS.out (fun _ => rfl) c_laws_heldIntS.run (fun x => by kernel_rfl) (by kernel_rfl) (loops_mem loops_laws_heldIntS (⟨⟨_, by kernel_rfl, l_laws_heldIntS_0⟩, trivial⟩))

noncomputable def sg_laws_heldObservationS : Sig := ⟨[(false, [.d (.sl .obs)]), (false, [.d (.int .i64)])], [], false, [(false, [.d (.int .i64)])], []⟩
noncomputable def c_laws_heldObservationS : Con := ⟨sg_laws_heldObservationS, Int, fun x => M_laws_heldObservationS x.1 x.2.1, fun r => (r, ())⟩
noncomputable def code_laws_heldObservationS : Code := Try.f22.body.getD .skip
noncomputable def body_laws_heldObservationS_0 : Code := (loopsIn code_laws_heldObservationS).getD 0 .skip
noncomputable def D_laws_heldObservationS_0 : LoopD := ⟨⟨mkSlots [(0, false, [.d (.sl .obs)]), (1, false, [.d (.int .i64)]), (5, false, [.d (.int .i64)])] 108 0, []⟩, [], [(.ret, ⟨mkSlots [(4, false, [.d (.int .i64)])] 108 0, []⟩, []), (.exit 0, ⟨mkSlots [(1, false, [.d (.int .i64)])] 108 0, []⟩, [])]⟩
noncomputable def S_laws_heldObservationS_0_w (x : Tys D_laws_heldObservationS_0.head.ks) : Option (OutT D_laws_heldObservationS_0.outs) := @whileO ((List Obs) × Int × Int × Unit) ((Int × Unit) ⊕ (Int × Unit)) S_laws_heldObservationS_0 x
noncomputable def E_laws_heldObservationS : Env := ⟨layD, [(68, c_laws_heldIntS)], [(2, mkLM D_laws_heldObservationS_0 S_laws_heldObservationS_0_w)], []⟩
theorem cons_laws_heldObservationS : ConsOk Try.prog E_laws_heldObservationS.cons := consOk_cons m_laws_heldIntS (callable_of Try.func68 (by kernel_rfl)) (consOk_nil)
theorem S_laws_heldObservationS_0_ok (x : Tys D_laws_heldObservationS_0.head.ks) : stepL E_laws_heldObservationS D_laws_heldObservationS_0 body_laws_heldObservationS_0 x = S_laws_heldObservationS_0 x := by kernel_rfl
theorem loops_laws_heldObservationS_0 : loopsIn body_laws_heldObservationS_0 = [] := by kernel_rfl
theorem l_laws_heldObservationS_0 : LoopOk Try.prog (mkLM D_laws_heldObservationS_0 S_laws_heldObservationS_0_w) body_laws_heldObservationS_0 := loop_ok2 mix layD_ok cons_laws_heldObservationS (by kernel_rfl) (loops_mem loops_laws_heldObservationS_0 (trivial)) S_laws_heldObservationS_0_ok fun _ _ h => h
theorem loops_laws_heldObservationS : loopsIn code_laws_heldObservationS = [body_laws_heldObservationS_0] := by kernel_rfl
theorem m_laws_heldObservationS : Meets Try.prog 22 c_laws_heldObservationS := meets_of (E := E_laws_heldObservationS) (code := code_laws_heldObservationS) mix layD_ok cons_laws_heldObservationS Try.func22 (by kernel_rfl) sg_laws_heldObservationS (by kernel_rfl) (fun y => y.1) c_laws_heldObservationS.out (fun _ => rfl) c_laws_heldObservationS.run (fun x => by kernel_rfl) (by kernel_rfl) (loops_mem loops_laws_heldObservationS (⟨⟨_, by kernel_rfl, l_laws_heldObservationS_0⟩, trivial⟩))

noncomputable def sg_laws_FnExactWithoutObservations : Sig := ⟨[(false, [.d (.sl .obs)]), (false, [.d (.sl .int)])], [], false, [(false, [.d (.bool)])], []⟩
noncomputable def c_laws_FnExactWithoutObservations : Con := ⟨sg_laws_FnExactWithoutObservations, Bool, fun x => M_laws_FnExactWithoutObservations x.1 x.2.1, fun r => (r, ())⟩
noncomputable def code_laws_FnExactWithoutObservations : Code := Try.f3.body.getD .skip
noncomputable def E_laws_FnExactWithoutObservations : Env := ⟨layD, [(13, c_laws_szObservationS), (15, c_laws_toObservationS), (16, c_laws_toIntS), (14, c_spec_WithoutObservations), (17, c_impl_WithoutObservations), (18, c_laws_eqObservationS), (19, c_laws_eqIntS), (20, c_laws_markObservationS_md), (21, c_laws_markIntS_md), (22, c_laws_heldObservationS)], [], []⟩
theorem cons_laws_FnExactWithoutObservations : ConsOk Try.prog E_laws_FnExactWithoutObservations.cons := consOk_cons m_laws_szObservationS (callable_of Try.func13 (by kernel_rfl)) (consOk_cons m_laws_toObservationS (callable_of Try.func15 (by kernel_rfl)) (consOk_cons m_laws_toIntS (callable_of Try.func16 (by kernel_rfl)) (consOk_cons m_spec_WithoutObservations (callable_of Try.func14 (by kernel_rfl)) (consOk_cons m_impl_WithoutObservations (callable_of Try.func17 (by kernel_rfl)) (consOk_cons m_laws_eqObservationS (callable_of Try.func18 (by kernel_rfl)) (consOk_cons m_laws_eqIntS (callable_of Try.func19 (by kernel_rfl)) (consOk_cons m_laws_markObservationS_md (callable_of Try.func20 (by kernel_rfl)) (consOk_cons m_laws_markIntS_md (callable_of Try.func21 (by kernel_rfl)) (consOk_cons m_laws_heldObservationS (callable_of Try.func22 (by kernel_rfl)) (consOk_nil))))))))))
theorem loops_laws_FnExactWithoutObservations : loopsIn code_laws_FnExactWithoutObservations = [] := by kernel_rfl
theorem m_laws_FnExactWithoutObservations : Meets Try.prog 3 c_laws_FnExactWithoutObservations := meets_of (E := E_laws_FnExactWithoutObservations) (code := code_laws_FnExactWithoutObservations) mix layD_ok cons_laws_FnExactWithoutObservations Try.func3 (by kernel_rfl) sg_laws_FnExactWithoutObservations (by kernel_rfl) (fun y => y.1) c_laws_FnExactWithoutObservations.out (fun _ => rfl) c_laws_FnExactWithoutObservations.run (fun x => by kernel_rfl) (by kernel_rfl) (loops_mem loops_laws_FnExactWithoutObservations (trivial))
end Go.Proofs.Ytkjfphfbpocijaa.WWithoutObservations
